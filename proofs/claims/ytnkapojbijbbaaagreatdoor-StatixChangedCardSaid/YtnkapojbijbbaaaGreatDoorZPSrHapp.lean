import Derived.Test.YtnkapojbijbbaaaGreatDoorZPSrRead
import Derived.Test.YtnkapojbijbbaaaGreatDoorZPSrMove
import Derived.Test.YtnkapojbijbbaaaGreatDoorZPSrCheck
import Derived.WalkLawsBesides
set_option linter.unusedSimpArgs false
set_option linter.unusedVariables false
set_option maxHeartbeats 4000000
set_option maxRecDepth 100000
namespace Go.Proofs.YtnkapojbijbbaaaGreatDoor.Sr
open Go.RowKit Go.Maps Go.WideMaps Rf Go.Proofs.YtnkapojbijbbaaaGreatDoor.Nm St
theorem folder_any (B : Nat) (w : World) (r : Nat) (T : Tr) (p : List UInt8) (A : XA) (v : Value) (hp : p.length ≤ 4611686018427387904) (hv : XsAt w v A.xs) (hvr : ∀ b ∈ xob A.xs v, b ≠ r) (hmost : T.most < 18446744073709551615) (h : TreeAt B w r T) :
 Calls Tryz.prog 23 #[ptr r, .string ⟨p.toArray⟩, .agg (A.cells v).toArray] w fun e w' => ∃ W, Below w.heap.size w W ∧ TreeAt B W r T ∧ AddPost B W r T p [] (asFold A) e w' := by
 obtain ⟨W, hW⟩ : ∃ W, W = w.alloc (.cells (((A.cells v).set 0 (.int .u8 2)).set 5 (.string ⟨#[]⟩)).toArray AtT) := ⟨_, rfl⟩
 have q2 : W.heap[w.heap.size]? = some (.cells ((asFold A).cells v).toArray AtT) := by rw [hW]; exact (MapKept.heap_alloc w _).1
 have hb : Below w.heap.size w W := by rw [hW]; exact (Below.refl _ _).alloc (Nat.le_refl _) _
 have q0 : (w.alloc (.cells (A.cells v).toArray AtT)).heap[w.heap.size]? = some (.cells (A.cells v).toArray AtT) := (MapKept.heap_alloc w _).1
 have hT := h.below hb
 have hX : XsAt W v (asFold A).xs := hv.kept hb.size (fun b hb' => hb.block b (hv.lt b hb'))
 have AD := Lib.hid (add_any B W r T p [] (asFold A) v hp (by simp) hX hvr hmost hT)
 have HQ2 : Hid (W.heap[w.heap.size]? = some (.cells ((asFold A).cells v).toArray AtT)) := Lib.hid q2
 have HB := Lib.hid hb; have HT := Lib.hid hT; have HW := Lib.hid hW
 have k0 : (w.alloc (.cells (A.cells v).toArray AtT)).cell? ⟨w.heap.size, 0, none⟩ = some (.int .u8 (A.node : Int)) := cell_of_heap q0
 have f0 : (w.alloc (.cells (A.cells v).toArray AtT)).frozen? ⟨w.heap.size, 0, none⟩ = false := frozen_of_heap q0
 unfold ptr at *
 clear h hv hvr hmost hT hX q0 q2 hb hW
 go_enter Tryz.func23, Tryz.ntmps23
 go_wp2_with (first
  | (refine Sh.wpList_load_at (T := AtT) (cs := ((asFold A).cells v).toArray) (by rw [← HW.out]; exact HQ2.out) rfl AtT (.tmp 5) rfl rfl _ Tryz.underlying79 rfl (infoAt _ _) ?_)
  | fail)
 rw [← HW.out]
 refine AD.out.mono ?_
 rintro ex w1 ⟨rfl, hno, hyes⟩
 have HNO := Lib.hid hno; have HYES := Lib.hid hyes
 clear hno hyes AD
 go_wp2
 go_ret
 exact ⟨W, HB.out, HT.out, rfl, HNO.out, HYES.out⟩
theorem ChT.reads {T T' : Tr} (h : ChT T T') : T'.reads = T.reads := by cases h <;> rfl
theorem addE_big {p d : List UInt8} {A : XA} {T : Tr} (h : 1048576 < d.length) : addE p d A T ≠ 0 := by
 rw [addE]
 split
 · decide
 · rw [if_pos (.inr h)]; decide
theorem splitL_16 (p : List UInt8) : (splitL p).length ≤ 16 := by
 rw [splitL]
 cases hs : splitP p with
 | none => simp
 | some l =>
   show l.length ≤ _
   rw [splitP] at hs
   split at hs
   · obtain rfl := Option.some.inj hs; simp
   · split at hs
     · next hc =>
       obtain rfl := Option.some.inj hs
       simp only [Bool.and_eq_true, decide_eq_true_eq] at hc
       obtain ⟨t, rfl⟩ := (hasPrefix_one p).1 hc.1.1
       have h2 := hc.1.2
       rw [List.count_cons_self] at h2
       rw [parts_count]
       simp only [List.drop_succ_cons, List.drop_zero]
       omega
     · cases hs
def modeA (m : Nat) : XA := ⟨0, m, 0, 0, 0, [], []⟩
theorem mode_xs (w : World) (m : Nat) : XsAt w (.slice none 0 0) (modeA m).xs := ⟨none, 0, rfl, Nat.zero_le _, by simp [modeA], by simp [modeA]⟩
theorem write_call {B : Nat} {w w' : World} {r : Nat} {T : Tr} {p d : List UInt8} {k : Nat} (h : TreeAt B w r T) (g : Good k T) (ht : TreeAt B w' r (writeT p d T)) (hu : Turn (r :: ownL T.L) w w') : CallT B w r T w' (writeT p d T) := by
 have key : writeT p d T = T ∨ ∃ n, n ∈ T.L ∧ d.length ≤ 1048576 ∧ T.clock < 1099511627776 ∧ writeT p d T = { T with clock := T.clock + 1, L := tickT [n.p] ((T.clock + 1 : Nat) : Int) (updT { n with data := d } T.L) } := by
  rw [writeT]
  by_cases h0 : writeE p d T = 0
  · rw [if_pos h0]
    cases hg : getT (splitL p) T.L with
    | none => exact .inl rfl
    | some n =>
      refine .inr ⟨n, (getT_nm hg).1, ?_, ?_, rfl⟩
      · rw [writeE] at h0
        split at h0
        · cases h0
        · split at h0
          · cases h0
          · omega
      · rw [writeE, hg] at h0
        split at h0
        · cases h0
        · split at h0
          · cases h0
          · dsimp only at h0
            split at h0
            · cases h0
            · split at h0
              · cases h0
              · omega
  · rw [if_neg h0]; exact .inl rfl
 rcases key with hk | ⟨n, hn, hd, hc, hk⟩
 · rw [hk] at ht ⊢
   exact ⟨ht, hu, fun _ h => .inl h, .same T⟩
 · rw [hk] at ht ⊢
   have hinj : ∀ x ∈ T.L, x.p = n.p → x = n := fun x hx hxp => h.p_inj hx hn hxp
   have hown : ownL (updT { n with data := d } T.L) = ownL T.L := ownL_map (updT_facts hinj rfl rfl rfl)
   refine ⟨ht, hu, fun b hb => .inl ?_, .upd n { n with data := d } hn ⟨rfl, rfl, rfl, rfl, rfl, rfl⟩ hc hd (g.att n hn)⟩
   rw [List.mem_append] at hb ⊢
   rcases hb with hb | hb
   · have hb : b ∈ ownL (tickT [n.p] _ (updT { n with data := d } T.L)) := hb
     rw [own_tickT, hown] at hb
     exact .inl hb
   · obtain ⟨x', hx', hb⟩ := List.mem_flatMap.1 hb
     have : ∃ x ∈ updT { n with data := d } T.L, b ∈ xob x.at_.xs x.xv := by
      obtain ⟨x, hx, rfl | rfl⟩ := tickT_mem hx'
      · exact ⟨_, hx, hb⟩
      · exact ⟨x, hx, hb⟩
     obtain ⟨x, hx, hb⟩ := this
     obtain ⟨y, hy, rfl⟩ := List.mem_map.1 hx
     split at hb
     · exact .inr (List.mem_flatMap.2 ⟨n, hn, hb⟩)
     · exact .inr (List.mem_flatMap.2 ⟨y, hy, hb⟩)
end Go.Proofs.YtnkapojbijbbaaaGreatDoor.Sr
namespace Go.Proofs.YtnkapojbijbbaaaGreatDoor.Sr
open Go.RowKit Go.Maps Go.WideMaps Rf Go.Proofs.YtnkapojbijbbaaaGreatDoor.Nm St
def seatN (s : List UInt8) : Xs → Nat
 | [] => 0
 | x :: r => if lt x.1 s then seatN s r + 1 else 0
def seatB (s : List UInt8) : Xs → Bool
 | [] => false
 | x :: r => if lt x.1 s then seatB s r else decide (x.1 = s)
end Go.Proofs.YtnkapojbijbbaaaGreatDoor.Sr
