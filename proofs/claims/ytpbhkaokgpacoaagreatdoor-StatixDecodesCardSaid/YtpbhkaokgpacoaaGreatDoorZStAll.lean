import Derived.Test.YtpbhkaokgpacoaaGreatDoorZStStrs
import Derived.Test.YtpbhkaokgpacoaaGreatDoorZStRefAt
import Derived.Test.YtpbhkaokgpacoaaGreatDoorZStSort
import Derived.Test.YtpbhkaokgpacoaaGreatDoorZRowKit
import Derived.Lib.Builder
import Derived.Lib.AppendStr
import Derived.Lib.UnsafeStr
import Derived.Laws.Externs
import Derived.Laws.BytesString
set_option linter.unusedSimpArgs false
set_option linter.unusedVariables false
/-
  The contract of the program's All.
-/
namespace Go.Proofs.YtpbhkaokgpacoaaGreatDoor.St
open Go.RowKit Go.Maps Go.WideMaps Go.Proofs.YtpbhkaokgpacoaaGreatDoor.Rf Go.Proofs.YtpbhkaokgpacoaaGreatDoor.Rd

theorem strKeys_toD {α : Type} (enc : α → Value) (m : MV α) : strKeys (toD enc m) = m.map (·.1) := by
  show (m.map fun p => ((Lit.string p.1, DataW.held (enc p.2)) : Lit × DataW Value)).map (fun p => strOf p.1) = _
  rw [List.map_map]; rfl
theorem keys_sorted {L : List SE} (hs : Srt L) {ss : List (List UInt8)} (h : ss.Perm (strKeys (toD enV (toZ L)))) : ss.mergeSort (fun x y => decide (x ≤ y)) = L.map (·.path) := by
  rw [strKeys_toD, toZ_keys] at h
  rw [mergeSort_of_perm h, srt_sort hs]
theorem ss_len {L : List SE} (hs : Srt L) {ss : List (List UInt8)} (h : ss.Perm (strKeys (toD enV (toZ L)))) : ss.length = L.length := by
  have e1 := congrArg List.length (keys_sorted hs h)
  rw [List.length_mergeSort, List.length_map] at e1; exact e1
/-- What All leaves. -/
def AllPost (w : World) (L : List SE) (e : Ending) (w' : World) : Prop :=
  ∃ v, e = .returned v ∧ w'.ownsRow w.heap.size 44 38 v L.length (cellsS L) ∧ Below w.heap.size w w'

set_option maxHeartbeats 8000000 in
set_option maxRecDepth 100000 in
theorem all_any (B : Nat) (w : World) (g b : Nat) (L : List SE) (h : IndexAt B w g b L) :
    Calls Tryz.prog 35 #[ptr g] w (AllPost w L) := by
  have c0 : w.cell? ⟨g, 0, none⟩ = some (.map (some b)) := cell_of_heap h.book
  have hll := h.len
  have hlen := h.map.len Tryz.underlying90
  simp only [toD_size, toZ_length] at hlen
  obtain ⟨i0, hi0, hz0, hz1, hz2⟩ := info_parts infoZ
  have hz3 : (enV zeroS).cells.size = 38 := by kernel_rfl
  obtain ⟨w1, hmk, ho1, hg1⟩ := run_make_own (P := Tryz.prog) w w.heap.size 81 44 i0 (enV zeroS) 38 Tryz.underlying81 hi0 hz0 hz1 .i64 .i64 L.length (by rw [hz2]; omega) (by unfold maxLen; omega) (Nat.le_refl _)
  have hb1 : Below w.heap.size w w1 := (Below.refl _ _).grown hg1 (Nat.le_refl _) (fun k hk => nomatch hk)
  have hw1 : w.heap.size < w1.heap.size := rowS_lt ho1 w.heap.size (by simp [ob, Value.ownBlock])
  have h1 := h.below hb1
  have c1 : w1.cell? ⟨g, 0, none⟩ = some (.map (some b)) := cell_of_heap h1.book
  have KE := Lib.hid (Tryz.keys (some b) w1)
  have SK := Lib.hid (Tryz.sortedKeys b 1000000 _ _ w1 h1.map (by rw [toD_size, toZ_length]; unfold maxLen; omega) (by rw [toD_size, toZ_length]; omega))
  have H := Lib.hid h; have HB1 := Lib.hid hb1; have HO1 := Lib.hid ho1; have HW1 := Lib.hid hw1
  have HFT := Lib.hid h.fits
  clear h h1 hb1 ho1 hg1 hw1
  unfold ptr
  go_enter Tryz.func35, Tryz.ntmps35
  go_wp2_with (first
    | (go_at_call 67; refine KE.out.mono ?_; rintro e w2 ⟨rfl, rfl⟩)
    | (go_at_call 66; refine SK.out.mono ?_; rintro e w3 ⟨nv, ss, rfl, hp, ho, _, hb⟩; rw [keys_sorted H.out.srt hp, ss_len H.out.srt hp] at ho; obtain ⟨na, nc, rfl⟩ := rowS_slice ho; have HO := Lib.hid ho; have HB := Lib.hid hb; clear hp ho hb))
  have HB3 : Hid (Below w.heap.size w w3) := Lib.hid ((HB1.out.alloc HB1.out.size _).trans (HB.out.mono (by rw [one_size]; have := HW1.out; omega)))
  have HO3 : Hid (w3.ownsRow w.heap.size 44 38 (.slice (some ⟨w.heap.size, 0, none⟩) 0 L.length) 0 []) := Lib.hid (rowS_kept HO1.out (fun x hx hl => (HB.out.block x (by rw [one_size]; omega)).trans (Below.heap_alloc _ _ _ hl)))
  have HN : Hid (∀ q, (.slice na L.length nc : Value).ownBlock = some q → w1.heap.size < q) := Lib.hid (fun q hq => by have := rowS_ge HO.out q (by simp [ob, hq]); rw [one_size] at this; omega)
  have HNM := Lib.hid (row_mono HO.out (Nat.zero_le _))
  clear SK KE hmk HO HB HO1 hlen c0 c1
  go_loopw [3, 21] (fun v3 v21 wr => ∃ k : Nat, k ≤ L.length ∧ v21 = .int .i64 k ∧ Hid (wr.ownsRow w.heap.size 44 38 v3 k (cellsS (L.take k))) ∧ Hid (Below w.heap.size w wr) ∧ Hid (wr.ownsRow 0 9 1 (.slice na L.length nc) L.length ((L.map (·.path)).map encStr)) ∧ Hid (∀ q r, v3.ownBlock = some q → (.slice na L.length nc : Value).ownBlock = some r → q ≠ r)) (fun _ v21 _ => L.length - (RowKit.intOf v21).toNat)
  case atStart => exact ⟨0, by omega, rfl, HO3, HB3, HNM, Lib.hid (fun q r hq hr => by have := HN.out r hr; have hq : some w.heap.size = some q := hq; injection hq with hq; have := HB1.out.size; omega)⟩
  case round =>
    obtain ⟨k, hk, rfl, HR, HBR, HNR, HD⟩ := hrel
    by_cases hkl : (k : Int) < (L.length : Int)
    · have hk2 : k < L.length := by omega
      obtain ⟨e, he⟩ : ∃ e, L[k]? = some e := ⟨_, List.getElem?_eq_getElem hk2⟩
      have hem := List.mem_of_getElem? he
      obtain ⟨gn, cap, hnv, hgn, _, _, hcell⟩ := rowS_form HNR.out (by omega)
      injection hnv with e1 e2 e3
      subst e1 e3
      have cn : wr.cell? ⟨gn, k, none⟩ = some (.string ⟨e.path.toArray⟩) := hcell k _ (by rw [List.getElem?_map, List.getElem?_map, he]; rfl)
      have HIX := Lib.hid (H.out.below HBR.out)
      have cg : wr.cell? ⟨g, 0, none⟩ = some (.map (some b)) := cell_of_heap HIX.out.book
      have hpl := (HFT.out e hem).path
      have hlk : (getL (⟨e.path.toArray⟩ : ByteArray).data.toList L) = some e := by rw [ba_data]; exact getL_mem H.out.srt hem
      have HLK := Lib.hid hlk
      have HPZ : Hid ((⟨e.path.toArray⟩ : ByteArray).size ≤ maxLen) := Lib.hid (by show e.path.length ≤ _; unfold maxLen; omega)
      have HE38 : Hid (e.cells.length = 38) := Lib.hid (cells_size (HFT.out e hem).id)
      have HTK := Lib.hid (take_cells he)
      clear hlk hcell hem he hpl
      go_wp2_with (first
        | (refine wpList_look1 HIX.out rfl _ _ rfl rfl ⟨e.path.toArray⟩ rfl HPZ.out ?_; rw [HLK.out]; dsimp only [Option.getD])
        | (refine wpList_one rfl 81 44 (.tmp 31) e.cells i0 _ rfl rfl Tryz.underlying81 hi0 hz0 hz1 HE38.out ?_
           intro y w4 hh4 hg4 hy4 hs4
           have HH4 := Lib.hid hh4; have HG4 := Lib.hid hg4; have HY4 := Lib.hid hy4; have HS4 := Lib.hid hs4
           clear hh4 hg4 hy4 hs4)
        | (refine wpList_append38 rfl _ _ 81 rfl w.heap.size 44 i0 _ 88 Tryz.underlying81 hi0 hz0 hz1 hz2 hz3 u3 k (cellsS (L.take k)) rfl (rowS_kept HR.out (fun x _ hl => HG4.out.block x hl (fun h => nomatch h))) _ 1 e.cells rfl HH4.out (by rw [HE38.out]) (cells_one e) (by unfold maxLen; omega) (by omega) (by have := HBR.out.size; have := HS4.out; omega) ?_
           intro v5 w5 ho5 hg5 hv5
           have HO5 := Lib.hid ho5; have HG5 := Lib.hid hg5; have HV5 := Lib.hid hv5
           clear ho5 hg5 hv5))
      go_roundw
      case rel =>
        have hb4 : Below w.heap.size w w4 := HBR.out.grown HG4.out HBR.out.size (fun k hk => nomatch hk)
        refine ⟨k + 1, by omega, by go_num, Lib.hid ?_, Lib.hid ?_, Lib.hid ?_, Lib.hid ?_⟩
        · rw [← HTK.out]; exact HO5.out
        · exact hb4.grown HG5.out hb4.size (fun x hx => rowS_ge HR.out x (by simp [ob, hx]))
        · refine rowS_kept (rowS_kept HNR.out (fun x _ hl => HG4.out.block x hl (fun h => nomatch h))) (fun x hx hl => HG5.out.block x hl (fun h => ?_))
          have hx1 : x = gn := by simpa [ob, Value.ownBlock] using hx
          have hx : some gn = some x := congrArg some hx1.symm
          exact HD.out x x h.symm hx rfl
        · intro q r hq hr
          rcases HV5.out with hv | hv
          · exact HD.out q r (hv ▸ hq) hr
          · rw [hq] at hv; injection hv with hv
            have hr : some gn = some r := hr
            injection hr with hr
            have := HG4.out.size
            omega
      case measure => simp [RowKit.intOf]; omega
    · obtain rfl : k = L.length := by omega
      have HR2 := HR.out
      rw [List.take_length] at HR2
      go_wp2
      go_ret
      exact ⟨_, rfl, HR2, HBR.out⟩
end Go.Proofs.YtpbhkaokgpacoaaGreatDoor.St
/-
  The contracts of strings.Builder's copyCheck and WriteString, at this program's translation of them.
-/
namespace Go.Proofs.YtpbhkaokgpacoaaGreatDoor.St
open Go.RowKit Go.Proofs.YtpbhkaokgpacoaaGreatDoor.Rf

abbrev BdT : TypeId := 97
theorem sizeBuilder : (Tryz.prog.info? BdT).map (·.size) = some 2 := by kernel_rfl
theorem liesBuilder : liesAt Tryz.prog Tryz.prog.depth BdT (2 / Tryz.prog.cellsOf BdT) 0 BdT 1 = true := by kernel_rfl
theorem infoByte : (Tryz.prog.info? 5).map (fun i => (i.zero, i.size, i.bytes)) = some (some (.int .u8 0), 1, 1) := by kernel_rfl

set_option maxHeartbeats 2000000 in
set_option maxRecDepth 100000 in
theorem copyCheck_used (b : Nat) (w : World) (h0 : w.cell? ⟨b, 0, none⟩ = some (.pointer (some ⟨b, 0, none⟩))) :
    Calls Tryz.prog 78 #[.pointer (some ⟨b, 0, none⟩)] w fun e w' => e = .returned (.tuple #[]) ∧ w' = w := by
  obtain ⟨j, hj, _⟩ := Option.map_eq_some_iff.1 sizeBuilder
  go_enter Tryz.func78, Tryz.ntmps78
  go_wp2
  rw [Lib.run_neq_ptr_same w _ Tryz.underlying95 hj]
  go_wp2
  go_end0
  exact ⟨rfl, rfl⟩

set_option maxHeartbeats 2000000 in
set_option maxRecDepth 100000 in
theorem copyCheck_fresh (b : Nat) (w : World) (h0 : w.cell? ⟨b, 0, none⟩ = some (.pointer none)) (hsh : w.shape? b = some (BdT, 2)) (hfz : w.frozen? ⟨b, 0, none⟩ = false) :
    Calls Tryz.prog 78 #[.pointer (some ⟨b, 0, none⟩)] w fun e w' => e = .returned (.tuple #[]) ∧ w' = w.setCell ⟨b, 0, none⟩ (.pointer (some ⟨b, 0, none⟩)) := by
  obtain ⟨j, hj, hjs⟩ := Option.map_eq_some_iff.1 sizeBuilder
  go_enter Tryz.func78, Tryz.ntmps78
  go_wp2
  rw [Lib.run_to_unsafe w ⟨b, 0, none⟩ Tryz.underlying95 Tryz.underlying179 hj (by rw [hjs]; decide) hsh (Nat.zero_lt_succ 1)]
  simp only [Result.andThen]
  rw [Oper.upon_value]
  go_wp2
  rw [run_callFunc_extern Tryz.func112 (by kernel_rfl) (by kernel_rfl) (by kernel_rfl) (e := Extern.AbiNoEscape.same) (by kernel_rfl)]
  rw [Lib.run_noEscape]
  simp only [Result.andThen]
  rw [Oper.upon_value]
  go_wp2
  rw [Lib.run_from_unsafe w ⟨b, 0, none⟩ Tryz.underlying179 Tryz.underlying95 hj hsh liesBuilder]
  simp only [Result.andThen]
  rw [Oper.upon_value]
  go_wp2
  go_end0
  exact ⟨rfl, rfl⟩

theorem copyCheck_any (B b : Nat) (bs : List Value) (w : World) (h : Lib.IsBuilder BdT 5 B b bs w) :
    Calls Tryz.prog 78 #[.pointer (some ⟨b, 0, none⟩)] w fun e w' => e = .returned (.tuple #[]) ∧ (Lib.BuilderAt BdT 5 B b (.pointer (some ⟨b, 0, none⟩)) bs w' ∧ Below B w w') := by
  rcases h with h | h
  · refine (copyCheck_fresh b w h.cell0 h.shape h.frozen0).mono ?_
    rintro e w' ⟨rfl, rfl⟩
    exact ⟨rfl, h.used _, (Below.refl B w).setCell (p := ⟨b, 0, none⟩) h.1 _⟩
  · refine (copyCheck_used b w h.cell0).mono ?_
    rintro e w' ⟨rfl, rfl⟩
    exact ⟨rfl, h, Below.refl B _⟩

set_option maxHeartbeats 2000000 in
set_option maxRecDepth 100000 in
/-- A text written behind a builder's bytes. -/
theorem writeString_any (B b : Nat) (bs : List Value) (s : ByteArray) (w : World) (h : Lib.IsBuilder BdT 5 B b bs w) (hlen : bs.length + s.size ≤ 140737488355328) (hBw : B ≤ w.heap.size) :
    Calls Tryz.prog 42 #[.pointer (some ⟨b, 0, none⟩), .string s] w fun e w' => e = .returned (.tuple #[.int .i64 s.size, .nilIface]) ∧ (Lib.BuilderAt BdT 5 B b (.pointer (some ⟨b, 0, none⟩)) (bs ++ Lib.strCells s) w' ∧ Below B w w') := by
  obtain ⟨i0, hi, hzz⟩ := Option.map_eq_some_iff.1 infoByte
  obtain ⟨hz0, hz1, hz2⟩ : i0.zero = some (.int .u8 0) ∧ i0.size = 1 ∧ i0.bytes = 1 := by injection hzz with a b; injection b with b c; exact ⟨a, b, c⟩
  have CC := Lib.hid (copyCheck_any B b bs w h)
  clear hzz
  go_enter Tryz.func42, Tryz.ntmps42
  go_wp2_with (go_at_call 78; refine CC.out.mono ?_)
  rintro e w1 ⟨rfl, h1, hb1⟩
  obtain ⟨hB, v, hbk, hown, hne⟩ := h1
  have c0 : w1.cell? ⟨b, 0, none⟩ = some (.pointer (some ⟨b, 0, none⟩)) := by rw [Lib.cell_of_heap hbk]; rfl
  have c1 : w1.cell? ⟨b, 1, none⟩ = some v := by rw [Lib.cell_of_heap hbk]; rfl
  go_wp2_with (at_builtin; refine Lib.wpList_append_own_string _ rfl _ _ 87 9 rfl B 5 i0 Tryz.underlying87 Tryz.underlying9 hi hz0 hz1 hz2 _ _ _ rfl hown s rfl ?c3 ?c4 ?c5 ?_)
  case c3 => unfold maxLen; omega
  case c4 => omega
  case c5 => have := hb1.size; omega
  intro v' w2 hown' hgrow _
  have hlt : b < w1.heap.size := lt_of_heap hbk
  have hb2 : w2.heap[b]? = some (.cells #[.pointer (some ⟨b, 0, none⟩), v] BdT (0, 0)) := by
    rw [hgrow.block b hlt (fun e => hne e.symm)]
    exact hbk
  have d0 : w2.cell? ⟨b, 0, none⟩ = some (.pointer (some ⟨b, 0, none⟩)) := by rw [Lib.cell_of_heap hb2]; rfl
  have d1 : w2.cell? ⟨b, 1, none⟩ = some v := by rw [Lib.cell_of_heap hb2]; rfl
  have f1 : w2.frozen? ⟨b, 1, none⟩ = false := Lib.frozen_of_heap hb2 1
  obtain ⟨ao, n', cap, rfl⟩ : ∃ ao n' cap, v' = .slice ao n' cap := by
    rcases hown'.2 with ⟨hv, _⟩ | ⟨g, cap, cur, hv, _⟩
    · exact ⟨_, _, _, hv⟩
    · exact ⟨_, _, _, hv⟩
  go_wp2
  go_ret2
  refine ⟨rfl, ?_, ?_⟩
  · exact Lib.BuilderAt.put (T := BdT) (e := 5) hB hb2 (bs' := bs ++ Lib.strCells s) (by simpa [Lib.strCells_length] using hown') (by decide)
  · exact (hb1.grown hgrow (by have := hb1.size; omega) (fun k hk => (hown.lt k hk).1)).setCell (p := ⟨b, 1, none⟩) hB _
end Go.Proofs.YtpbhkaokgpacoaaGreatDoor.St
/-
  A builder whose row is told: what WriteString turns, and nothing else.
-/
namespace Go.Proofs.YtpbhkaokgpacoaaGreatDoor.St
open Go.RowKit Go.Proofs.YtpbhkaokgpacoaaGreatDoor.Rf

/-- A builder, and the row of its bytes. -/
structure BdAt (B b : Nat) (v : Value) (l : List UInt8) (w : World) : Prop where
  blk : w.heap[b]? = some (.cells #[.pointer none, v] BdT) ∨ w.heap[b]? = some (.cells #[.pointer (some ⟨b, 0, none⟩), v] BdT)
  row : w.ownsRow B 5 1 v (Lib.byteCells l).length (Lib.byteCells l)
  ne : b ∉ ob v
  base : B ≤ b
theorem BdAt.lt {B b : Nat} {v : Value} {l : List UInt8} {w : World} (h : BdAt B b v l w) : b < w.heap.size := by
  rcases h.blk with k | k <;> exact lt_of_heap k
theorem BdAt.kept {B b : Nat} {v : Value} {l : List UInt8} {w w' : World} (h : BdAt B b v l w) (h1 : w'.heap[b]? = w.heap[b]?) (h2 : ∀ x ∈ ob v, x < w.heap.size → w'.heap[x]? = w.heap[x]?) : BdAt B b v l w' :=
  ⟨by rw [h1]; exact h.blk, row_kept h.row h2, h.ne, h.base⟩
theorem BdAt.below {B b : Nat} {v : Value} {l : List UInt8} {w w' : World} (h : BdAt B b v l w) (hb : Below w.heap.size w w') : BdAt B b v l w' :=
  h.kept (hb.block _ h.lt) (fun x _ hl => hb.block x hl)
theorem BdAt.is {B b : Nat} {v : Value} {l : List UInt8} {w : World} (h : BdAt B b v l w) : Lib.IsBuilder BdT 5 B b (Lib.byteCells l) w := by
  have hne : v.ownBlock ≠ some b := fun e => h.ne (by simp [ob, e])
  rcases h.blk with k | k
  · exact .inl ⟨h.base, v, k, h.row, hne⟩
  · exact .inr ⟨h.base, v, k, h.row, hne⟩
theorem bd_fresh (w : World) : BdAt w.heap.size w.heap.size (.slice none 0 0) [] (w.alloc (.cells #[.pointer none, .slice none 0 0] BdT)) :=
  ⟨.inl (MapKept.heap_alloc w _).1, World.ownsRow_nil _ _ _ _, by simp [ob, Value.ownBlock], Nat.le_refl _⟩
theorem copyCheck_bd (B b : Nat) (v : Value) (l : List UInt8) (w : World) (h : BdAt B b v l w) :
    Calls Tryz.prog 78 #[.pointer (some ⟨b, 0, none⟩)] w fun e w' => e = .returned (.tuple #[]) ∧ BdAt B b v l w' ∧ w'.heap[b]? = some (.cells #[.pointer (some ⟨b, 0, none⟩), v] BdT) ∧ Turn [b] w w' := by
  rcases h.blk with k | k
  · refine (copyCheck_fresh b w (by rw [cell_of_heap k]; rfl) (by simp [World.shape?, k]) (frozen_of_heap k)).mono ?_
    rintro e w' ⟨rfl, rfl⟩
    have hk : (w.setCell ⟨b, 0, none⟩ (.pointer (some ⟨b, 0, none⟩))).heap[b]? = some (.cells #[.pointer (some ⟨b, 0, none⟩), v] BdT) := by rw [setCell_heap _ _ _ _ _ _ k]; rfl
    refine ⟨rfl, ⟨.inr hk, row_kept h.row (fun x hx _ => Below.heap_setCell _ _ _ _ (fun e => h.ne (by have e : x = b := e; exact e ▸ hx))), h.ne, h.base⟩, hk, (Turn.refl _ _).setCell (.inl (by simp)) _⟩
  · refine (copyCheck_used b w (by rw [cell_of_heap k]; rfl)).mono ?_
    rintro e w' ⟨rfl, rfl⟩
    exact ⟨rfl, h, k, Turn.refl _ _⟩

section
variable {P : Program} {w : World}
/-- The row behind an append of a text is the old one, or a new one. -/
theorem append_str_at (base : Nat) (t u ty e : TypeId) (i : TypeInfo) (ht : P.underlying t = some (.slice e)) (hu : P.underlying u = some .string) (hi : P.info? e = some i) (hz : i.zero = some (.int .u8 0))
    (hsize : i.size = 1) (hby : i.bytes = 1) (v : Value) (n : Nat) (xs : List Value) (hown : w.ownsRow base e 1 v n xs) (s : ByteArray)
    (h63 : n + s.size ≤ maxLen) (hbytes : n + s.size ≤ 140737488355328) (hbase : base ≤ w.heap.size) :
    ∃ v' w', (Builtin.append_ #[t, u] ty #[v, .string s]).run P w = .ok v' w' ∧ w'.ownsRow base e 1 v' (n + s.size) (xs ++ Lib.strCells s) ∧ w.grownBy w' v.ownBlock ∧ ∀ x ∈ ob v', x ∈ ob v ∨ w.heap.size ≤ x := by
  obtain ⟨v', w', hr, h2, h3, _⟩ := Lib.run_append_own_string (P := P) w base t u ty e i ht hu hi hz hsize hby v n xs hown s h63 hbytes hbase
  refine ⟨v', w', hr, h2, h3, fun x hx => ?_⟩
  have hxl : xs.length = n := by simpa using hown.1
  rcases hown.2 with ⟨rfl, rfl⟩ | ⟨g, cap, cur, rfl, hbg, hg, hnc, hcm, hcs, htake⟩
  · have hx0 : xs = [] := List.eq_nil_of_length_eq_zero hxl
    subst hx0
    obtain ⟨v2, w2, hr2, k2, _, _⟩ := Lib.run_append_own_string (P := P) w w.heap.size t u ty e i ht hu hi hz hsize hby (.slice none 0 0) 0 [] (World.ownsRow_nil _ _ _ _) s h63 hbytes (Nat.le_refl _)
    rw [hr] at hr2
    injection hr2 with e1 e2
    subst e1
    exact .inr (row_ge k2 x hx)
  · by_cases hroom : n + s.size ≤ cap
    · have hcs' : cur.size = cap := by simpa using hcs
      have hr2 := Lib.run_append_room_string (P := P) w t u ty e i ht hu hi hsize g n cap cur hg s hroom (by omega)
      rw [hr] at hr2
      injection hr2 with e1 e2
      subst e1
      exact .inl (by simpa [ob, Value.ownBlock] using hx)
    · have holds : ∀ j u, xs[j]? = some u → w.cell? ((⟨g, 0, none⟩ : Addr).add j) = some u := hown.cells (g := g) rfl
      have hr2 := Lib.run_append_grow_string (P := P) w t u ty e i (.int .u8 0) ht hu hi hz ⟨g, 0, none⟩ n cap xs (by rw [hsize]; simpa using hxl) holds s (by omega) (by simp only [maxLen] at h63; omega) (by rw [hby]; exact growslice_fits (by omega) (by omega))
      rw [hr] at hr2
      injection hr2 with e1 e2
      subst e1
      have : x = w.heap.size := by simpa [ob, Value.ownBlock] using hx
      exact .inr (by omega)
theorem wp_append_str {o : Oper} {a : Act} {K : Act → World → Prop} {Q : Exit → Act → World → Prop} (sl x : Operand) (t u : TypeId)
    (ho : o.op = .call { callee := .builtin .append, args := #[sl, x], argTypes := #[t, u] })
    (base : Nat) (e : TypeId) (i : TypeInfo) (ht : P.underlying t = some (.slice e)) (hu : P.underlying u = some .string) (hi : P.info? e = some i) (hz : i.zero = some (.int .u8 0))
    (hsize : i.size = 1) (hby : i.bytes = 1)
    (v : Value) (n : Nat) (xs : List Value) (hs : a.eval sl = v) (hown : w.ownsRow base e 1 v n xs) (s : ByteArray) (hx : a.eval x = .string s)
    (h63 : n + s.size ≤ maxLen) (hbytes : n + s.size ≤ 140737488355328) (hbase : base ≤ w.heap.size)
    (h : ∀ v' w', w'.ownsRow base e 1 v' (n + s.size) (xs ++ Lib.strCells s) → w.grownBy w' v.ownBlock → (∀ x ∈ ob v', x ∈ ob v ∨ w.heap.size ≤ x) → K (a.put o.dst v') w') : o.wp P a w K Q := by
  obtain ⟨v', w', hr, h2, h3, h4⟩ := append_str_at (P := P) base t u o.type e i ht hu hi hz hsize hby v n xs hown s h63 hbytes hbase
  unfold Oper.wp execOp
  simp only [ho, resolve, invoke, builtin, Sem.run_bind, Sem.run_pure, Result.andThen_ok, List.map_toArray, List.map_cons, List.map_nil, hs, hx, hr]
  exact h v' w' h2 h3 h4
theorem wpList_append_str {ops : Array Oper} {rest : List Oper} {o : Oper} {a : Act} {Q : Exit → Act → World → Prop} (hgd : o.guard = none) (sl x : Operand) (t u : TypeId)
    (ho : o.op = .call { callee := .builtin .append, args := #[sl, x], argTypes := #[t, u] })
    (base : Nat) (e : TypeId) (i : TypeInfo) (ht : P.underlying t = some (.slice e)) (hu : P.underlying u = some .string) (hi : P.info? e = some i) (hz : i.zero = some (.int .u8 0))
    (hsize : i.size = 1) (hby : i.bytes = 1)
    (v : Value) (n : Nat) (xs : List Value) (hs : a.eval sl = v) (hown : w.ownsRow base e 1 v n xs) (s : ByteArray) (hx : a.eval x = .string s)
    (h63 : n + s.size ≤ maxLen) (hbytes : n + s.size ≤ 140737488355328) (hbase : base ≤ w.heap.size)
    (h : ∀ v' w', w'.ownsRow base e 1 v' (n + s.size) (xs ++ Lib.strCells s) → w.grownBy w' v.ownBlock → (∀ x ∈ ob v', x ∈ ob v ∨ w.heap.size ≤ x) → wpList P ops Q rest (a.put o.dst v') w') : wpList P ops Q (o :: rest) a w :=
  wpList_plain hgd fun _ hK => wp_append_str sl x t u ho base e i ht hu hi hz hsize hby v n xs hs hown s hx h63 hbytes hbase (fun v' w' a b c => hK _ _ (h v' w' a b c))
end

/-- What a text written behind leaves. -/
def WrPost (B b : Nat) (v : Value) (l : List UInt8) (n : Nat) (w : World) (e : Ending) (w' : World) : Prop :=
  ∃ v', e = .returned (.tuple #[.int .i64 (n : Int), .nilIface]) ∧ BdAt B b v' l w' ∧ Turn (b :: ob v) w w' ∧ ∀ x ∈ ob v', x ∈ ob v ∨ w.heap.size ≤ x

set_option maxHeartbeats 2000000 in
set_option maxRecDepth 100000 in
/-- A text written behind a builder's bytes. -/
theorem write_any (B b : Nat) (v : Value) (l t : List UInt8) (w : World) (h : BdAt B b v l w) (hlen : l.length + t.length ≤ 140737488355328) (hBw : B ≤ w.heap.size) :
    Calls Tryz.prog 42 #[.pointer (some ⟨b, 0, none⟩), .string ⟨t.toArray⟩] w (WrPost B b v (l ++ t) t.length w) := by
  obtain ⟨i0, hi, hzz⟩ := Option.map_eq_some_iff.1 infoByte
  obtain ⟨hz0, hz1, hz2⟩ : i0.zero = some (.int .u8 0) ∧ i0.size = 1 ∧ i0.bytes = 1 := by injection hzz with a b; injection b with b c; exact ⟨a, b, c⟩
  have CC := Lib.hid (copyCheck_bd B b v l w h)
  have HW := Lib.hid h
  have hbl : (Lib.byteCells l).length = l.length := Lib.byteCells_length l
  have hst : (⟨t.toArray⟩ : ByteArray).size = t.length := rfl
  clear hzz h
  go_enter Tryz.func42, Tryz.ntmps42
  go_wp2_with (go_at_call 78; refine CC.out.mono ?_)
  rintro e w1 ⟨rfl, h1, hbk, ht1⟩
  have hown := h1.row
  have hne := h1.ne
  have c0 : w1.cell? ⟨b, 0, none⟩ = some (.pointer (some ⟨b, 0, none⟩)) := by rw [Lib.cell_of_heap hbk]; rfl
  have c1 : w1.cell? ⟨b, 1, none⟩ = some v := by rw [Lib.cell_of_heap hbk]; rfl
  have H1 := Lib.hid h1; have HT1 := Lib.hid ht1
  clear h1 ht1
  go_wp2_with (at_builtin; refine wpList_append_str rfl _ _ 87 9 rfl B 5 i0 Tryz.underlying87 Tryz.underlying9 hi hz0 hz1 hz2 _ _ _ rfl hown ⟨t.toArray⟩ rfl ?c3 ?c4 ?c5 ?_)
  case c3 => unfold maxLen; rw [hbl, hst]; omega
  case c4 => rw [hbl, hst]; omega
  case c5 => have := HT1.out.size; omega
  intro v' w2 hown' hgrow hv2
  have hlt : b < w1.heap.size := lt_of_heap hbk
  have hb2 : w2.heap[b]? = some (.cells #[.pointer (some ⟨b, 0, none⟩), v] BdT (0, 0)) := by
    rw [hgrow.block b hlt (fun e => hne (by simp [ob, e]))]
    exact hbk
  have d0 : w2.cell? ⟨b, 0, none⟩ = some (.pointer (some ⟨b, 0, none⟩)) := by rw [Lib.cell_of_heap hb2]; rfl
  have d1 : w2.cell? ⟨b, 1, none⟩ = some v := by rw [Lib.cell_of_heap hb2]; rfl
  have f1 : w2.frozen? ⟨b, 1, none⟩ = false := Lib.frozen_of_heap hb2 1
  obtain ⟨ao, n', cap, rfl⟩ : ∃ ao n' cap, v' = .slice ao n' cap := by
    rcases hown'.2 with ⟨hv, _⟩ | ⟨g, cap, cur, hv, _⟩
    · exact ⟨_, _, _, hv⟩
    · exact ⟨_, _, _, hv⟩
  have HO := Lib.hid hown'; have HG := Lib.hid hgrow; have HV := Lib.hid hv2; have HB2 := Lib.hid hb2; have HOW := Lib.hid hown
  clear hown' hgrow hv2 hb2 hown
  go_wp2
  go_ret2
  have hT : Turn (b :: ob v) w w2 := (HT1.out.mono (Y := b :: ob v) (fun x hx => by simp at hx; simp [hx])).trans (Y := ob v) ⟨HG.out.os, HG.out.tape, HG.out.output, HG.out.size, fun k hk hx => HG.out.block k hk (fun e => hx (by simp [ob, e]))⟩ (fun y hy => .inl (by simp [hy]))
  have hge := HV.out
  have hnb : b ∉ ob (.slice ao n' cap) := fun hx => by
    rcases hge b hx with k | k
    · exact hne k
    · omega
  refine ⟨.slice ao n' cap, rfl, ⟨.inr ?_, ?_, hnb, HW.out.base⟩, hT.setCell (.inl (by simp)) _, fun x hx => (hge x hx).imp_right (fun k => Nat.le_trans HT1.out.size k)⟩
  · rw [setCell_heap _ _ _ _ _ _ HB2.out]; rfl
  · have e1 : Lib.byteCells (l ++ t) = Lib.byteCells l ++ Lib.strCells ⟨t.toArray⟩ := by simp [Lib.byteCells, Lib.strCells]
    rw [e1, List.length_append, Lib.strCells_length]
    have ho := HO.out
    rw [← hbl] at ho
    exact row_kept ho (fun x hx _ => Below.heap_setCell _ _ _ _ (fun e => hnb (by have e : x = b := e; exact e ▸ hx)))
end Go.Proofs.YtpbhkaokgpacoaaGreatDoor.St
