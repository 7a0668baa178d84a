import Derived.Test.YtpbhkaokgpacoaaGreatDoorZStKit
import Derived.Test.YtpbhkaokgpacoaaGreatDoorZStRead
import Derived.Test.YtpbhkaokgpacoaaGreatDoorZStSet
set_option linter.unusedSimpArgs false
set_option linter.unusedVariables false
/-
  A row of texts that is only read.
-/
namespace Go.Proofs.YtpbhkaokgpacoaaGreatDoor.St
open Go.RowKit Go.Maps Go.WideMaps Go.Proofs.YtpbhkaokgpacoaaGreatDoor.Rf Go.Proofs.YtpbhkaokgpacoaaGreatDoor.Rd

/-- A slice that reads as texts. -/
def StrsAt (w : World) (v : Value) (ps : List (List UInt8)) : Prop :=
  ∃ a cap, v = .slice a ps.length cap ∧ ps.length ≤ maxLen ∧ (∀ p ∈ ps, p.length ≤ maxLen) ∧
    (ps ≠ [] → ∃ b o, a = some ⟨b, o, none⟩ ∧ b < w.heap.size ∧ ∀ (i : Nat) p, ps[i]? = some p → w.cell? ⟨b, o + i, none⟩ = some (.string ⟨p.toArray⟩))
theorem StrsAt.turn {X : List Nat} {w w' : World} {v : Value} {ps : List (List UInt8)} (h : StrsAt w v ps) (ht : Turn X w w') (hX : ∀ b ∈ X, ∀ o n cap, v ≠ .slice (some ⟨b, o, none⟩) n cap) : StrsAt w' v ps := by
  obtain ⟨a, cap, rfl, h1, h2, h3⟩ := h
  refine ⟨a, cap, rfl, h1, h2, fun hne => ?_⟩
  obtain ⟨b, o, rfl, hb, hc⟩ := h3 hne
  refine ⟨b, o, rfl, Nat.lt_of_lt_of_le hb ht.size, fun i p hp => ?_⟩
  rw [World.cell?_of_block (a := ⟨b, o + i, none⟩) (ht.block b hb (fun hm => hX b hm o _ cap rfl))]
  exact hc i p hp
theorem StrsAt.below {w w' : World} {v : Value} {ps : List (List UInt8)} (h : StrsAt w v ps) (hb : Below w.heap.size w w') : StrsAt w' v ps :=
  h.turn (X := []) (Turn.of_below hb) (fun b hb => by cases hb)
end Go.Proofs.YtpbhkaokgpacoaaGreatDoor.St
/-
  How an index of the reference's lies in memory; the contract of its At.
-/
namespace Go.Proofs.YtpbhkaokgpacoaaGreatDoor.St
open Go.RowKit Go.Maps Go.WideMaps Go.Proofs.YtpbhkaokgpacoaaGreatDoor.Rf Go.Proofs.YtpbhkaokgpacoaaGreatDoor.Rd

structure RefAt (B : Nat) (w : World) (r : Nat) (v : Value) (L : List SE) : Prop where
  book : w.heap[r]? = some (.cells #[v] 29)
  row : w.ownsRow B 49 38 v L.length (cellsS L)
  off : ∀ x ∈ ob v, x ≠ r
  base : B ≤ r
  srt : Srt L
  fits : ∀ e ∈ L, e.Fits
  len : L.length ≤ 65536
theorem RefAt.lt {B : Nat} {w : World} {r : Nat} {v : Value} {L : List SE} (h : RefAt B w r v L) : r < w.heap.size := lt_of_heap h.book
theorem RefAt.kept {B : Nat} {w w' : World} {r : Nat} {v : Value} {L : List SE} (h : RefAt B w r v L) (hr : w'.heap[r]? = w.heap[r]?) (hv : ∀ x ∈ ob v, w'.heap[x]? = w.heap[x]?) : RefAt B w' r v L :=
  ⟨hr.trans h.book, rowS_kept h.row (fun x hx _ => hv x hx), h.off, h.base, h.srt, h.fits, h.len⟩
theorem RefAt.below {B : Nat} {w w' : World} {r : Nat} {v : Value} {L : List SE} (h : RefAt B w r v L) (hb : Below w.heap.size w w') : RefAt B w' r v L :=
  h.kept (hb.block _ h.lt) (fun x hx => hb.block _ (rowS_lt h.row x hx))
theorem RefAt.mono {B B' : Nat} {w : World} {r : Nat} {v : Value} {L : List SE} (h : RefAt B w r v L) (hB : B' ≤ B) : RefAt B' w r v L :=
  ⟨h.book, row_mono h.row hB, h.off, Nat.le_trans hB h.base, h.srt, h.fits, h.len⟩
theorem fitsId {L : List SE} (h : ∀ e ∈ L, e.Fits) : ∀ e ∈ L, e.id.length = 32 := fun e he => (h e he).id
/-- An entry's cells within the row. -/
theorem RefAt.ent {B : Nat} {w : World} {r g n cap : Nat} {L : List SE} (h : RefAt B w r (.slice (some ⟨g, 0, none⟩) n cap) L) {i : Nat} {e : SE} (he : L[i]? = some e) : w.rangeAt g (i * 38) e.cells := by
  obtain ⟨h1, ⟨hc, _⟩ | ⟨g', cap', cur, hv, a1, a2, a3, a4, a5, a6⟩⟩ := h.row
  · cases hc
  · injection hv with e1 e2 e3
    injection e1 with e1
    injection e1 with e1
    subst e1
    intro t u hu
    rw [cell_of_heap a2]
    have hk := cellsS_at (fitsId h.fits) he hu
    rw [← a6] at hk
    have hlt : i * 38 + t < L.length * 38 := by
      have := (List.getElem?_eq_some_iff.1 hk).1
      rw [List.length_take] at this
      omega
    rw [List.getElem?_take_of_lt hlt, Array.getElem?_toList] at hk
    exact hk
theorem RefAt.path {B : Nat} {w : World} {r g n cap : Nat} {L : List SE} (h : RefAt B w r (.slice (some ⟨g, 0, none⟩) n cap) L) {i : Nat} {e : SE} (he : L[i]? = some e) : w.cell? ⟨g, i * 38, none⟩ = some (.string ⟨e.path.toArray⟩) :=
  h.ent he 0 _ rfl

def thereL (p : List UInt8) (L : List SE) : Bool := (getL p L).isSome
theorem there_eq {p : List UInt8} {L : List SE} : thereL p L = (match L[atL p L]? with | some x => decide (x.path = p) | none => false) := by
  rw [thereL, getL_at]
  cases L[atL p L]? with
  | none => rfl
  | some x =>
    show (if x.path = p then some x else none).isSome = decide (x.path = p)
    split <;> simp [*]

theorem below_drewN (w : World) (n : Nat) : Below w.heap.size w (w.drewN n) := (Below.refl _ _).trans ⟨rfl, rfl, rfl, Nat.le_of_eq (by rw [World.heap_drewN]), fun _ _ => by rw [World.heap_drewN]⟩

set_option maxHeartbeats 4000000 in
set_option maxRecDepth 100000 in
theorem at_any (B : Nat) (w : World) (r : Nat) (v : Value) (L : List SE) (p : List UInt8) (hp : p.length ≤ maxLen) (h : RefAt B w r v L) :
    Calls Tryz.prog 41 #[ptr r, .string ⟨p.toArray⟩] w fun e w' => e = .returned (.tuple #[.int .i64 (atL p L : Int), .bool (thereL p L)]) ∧ Below w.heap.size w w' := by
  obtain ⟨va, vc, rfl⟩ := rowS_slice h.row
  have c0 : w.cell? ⟨r, 0, none⟩ = some (.slice va L.length vc) := cell_of_heap h.book
  have hrl := h.lt
  have hle := atL_le p L
  have hlt := atL_lt p L
  have hst := atL_stop p L
  have HTH := Lib.hid (there_eq (p := p) (L := L))
  have hlen : L.length ≤ maxLen := by have := h.len; unfold maxLen; omega
  unfold maxLen at hlen hp
  unfold ptr
  generalize atL p L = ia at *
  generalize thereL p L = TH at *
  go_enter Tryz.func41, Tryz.ntmps41
  go_wp2
  go_loopw [6] (fun vi wr => ∃ i : Nat, i ≤ ia ∧ vi = .int .i64 (i : Int) ∧ wr = w) (fun vi _ => L.length - (RowKit.intOf vi).toNat)
  case atStart => exact ⟨0, Nat.zero_le _, rfl, rfl⟩
  case round =>
    obtain ⟨i, hi, rfl, rfl⟩ := hrel
    by_cases hl : (i : Int) < (L.length : Int)
    · have hil : i < L.length := by omega
      obtain ⟨e, he⟩ : ∃ e, L[i]? = some e := ⟨_, List.getElem?_eq_getElem hil⟩
      obtain ⟨gv, cap, hv, hgv, _, _, _⟩ := rowS_form h.row (by omega)
      injection hv with e1 e2 e3
      subst e1 e3
      have cp := h.path he
      clear e2
      by_cases hs : i < ia
      · have hlp : Op.bytesLess e.path p = true := by rw [lt_less]; exact hlt i e hs he
        clear hlt hst hle
        go_wp2
        go_roundw
        case rel => exact ⟨i + 1, by omega, by simp, trivial⟩
        case measure => simp [RowKit.intOf]; omega
      · obtain rfl : i = ia := by omega
        have hlp : Op.bytesLess e.path p = false := by rw [lt_less]; exact hst e he
        have HT2 : Hid (TH = decide (e.path = p)) := Lib.hid (by rw [HTH.out, he])
        clear hlt hst hle HTH
        by_cases hpe : e.path = p
        · have hq : (e.path == p) = true := by simpa using hpe
          have HT3 : Hid (TH = true) := Lib.hid (by rw [HT2.out]; simpa using hpe)
          clear hpe
          go_wp2
          go_quiet (fail)
          go_wp2
          go_ret2
          rw [HT3.out]
          exact ⟨rfl, below_drewN _ _⟩
        · have hq : (e.path == p) = false := by simpa using hpe
          have HT3 : Hid (TH = false) := Lib.hid (by rw [HT2.out]; simpa using hpe)
          clear hpe
          go_wp2
          go_quiet (fail)
          go_wp2
          go_ret2
          rw [HT3.out]
          exact ⟨rfl, below_drewN _ _⟩
    · obtain rfl : i = ia := by omega
      have HT3 : Hid (TH = false) := Lib.hid (by rw [HTH.out, List.getElem?_eq_none (by omega)])
      obtain rfl : i = L.length := by omega
      clear hlt hst hle HTH hl hi
      go_wp2
      go_quiet (fail)
      go_wp2
      go_ret2
      rw [HT3.out]
      exact ⟨rfl, below_drewN _ _⟩
end Go.Proofs.YtpbhkaokgpacoaaGreatDoor.St
/-
  The contracts of the reference's Get and of both Freshs.
-/
namespace Go.Proofs.YtpbhkaokgpacoaaGreatDoor.St
open Go.RowKit Go.Maps Go.WideMaps Go.Proofs.YtpbhkaokgpacoaaGreatDoor.Rf Go.Proofs.YtpbhkaokgpacoaaGreatDoor.Rd

structure EnOkR (e : SE) : Prop where
  info : (Tryz.prog.info? 49).map (·.size) = some e.cells.toArray.size
  infoL : (Tryz.prog.info? 49).map (·.size) = some e.cells.length
  z : 38 = e.cells.toArray.size
  one : e.cells.toArray.all (·.oneCell') = true
theorem SE.Fits.enR {e : SE} (h : e.Fits) : EnOkR e :=
  ⟨infoEnR h.id, by rw [cells_size h.id]; kernel_rfl, by rw [List.size_toArray, cells_size h.id], cells_all e⟩
theorem range_stat {w : World} {x : Nat} {e : SE} {T : TypeId} (h : w.heap[x]? = some (.cells e.cells.toArray T)) : w.rangeAt x 1 e.stat := fun j v hv => by
  rw [cell_of_heap h]
  match j, hv with
  | 0, hv => exact hv
  | 1, hv => exact hv
  | 2, hv => exact hv
  | 3, hv => exact hv
theorem RefAt.fitsGet {B : Nat} {w : World} {r : Nat} {v : Value} {L : List SE} (h : RefAt B w r v L) (p : List UInt8) : ((getL p L).getD zeroS).Fits := by
  cases hg : getL p L with
  | none => exact zero_fits
  | some e => exact h.fits e (getL_path hg).2
theorem neq_statR (w : World) (e s : SE) : (binOp .neq 47 (.agg e.stat.toArray) (.agg s.stat.toArray)).run Tryz.prog w = .ok (.bool (!statIs e s)) w := by
  unfold SE.stat statIs
  go_simp
  by_cases h1 : e.node = s.node
  · by_cases h2 : e.size = s.size
    · by_cases h3 : e.ino = s.ino
      · by_cases h4 : e.tick = s.tick
        · simp [h1, h2, h3, h4]
        · simp [h1, h2, h3, h4]
      · have h3' : ¬ (e.ino : Int) = (s.ino : Int) := by omega
        simp [h1, h2, h3, h3']
    · simp [h1, h2]
  · have h1' : ¬ (e.node : Int) = (s.node : Int) := by omega
    simp [h1, h1']

set_option maxHeartbeats 4000000 in
set_option maxRecDepth 100000 in
theorem ref_get (B : Nat) (w : World) (r : Nat) (v : Value) (L : List SE) (S : ByteArray) (hS : S.size ≤ maxLen) (h : RefAt B w r v L) :
    Calls Tryz.prog 21 #[ptr r, .string S] w fun e w' => e = .returned (.tuple #[enV (getV S.data.toList L), .int .i64 (getE S.data.toList L)]) ∧ Below w.heap.size w w' := by
  obtain ⟨W, hW⟩ : ∃ W, W = w.alloc (.cells zeroS.cells.toArray 49) := ⟨_, rfl⟩
  have hb0 : Below w.heap.size w W := by rw [hW]; exact (Below.refl _ _).alloc (Nat.le_refl _) _
  have hr0 : W.heap[w.heap.size]? = some (.cells zeroS.cells.toArray 49) := by rw [hW]; exact (MapKept.heap_alloc w _).1
  have AT := Lib.hid (at_any B W r v L S.data.toList (by rw [← Lib.size_eq]; exact hS) (h.below hb0))
  rw [ba_mk] at AT
  have HB0 := Lib.hid hb0; have HR0 := Lib.hid hr0; have HW := Lib.hid hW
  have ZOK := Lib.hid zero_fits.enR
  unfold ptr getE getV at *
  unfold thereL at AT
  cases hg : getL S.data.toList L with
  | none =>
    rw [hg] at AT
    clear hg h hW hb0 hr0
    go_enter Tryz.func21, Tryz.ntmps21
    go_wp2_with fail
    change Calls _ _ _ (w.alloc (.cells zeroS.cells.toArray 49)) _
    rw [← HW.out]
    refine AT.out.mono ?_
    rintro e w1 ⟨rfl, hb1⟩
    have HB1 := Lib.hid (HB0.out.trans (hb1.mono HB0.out.size))
    have HR1 := Lib.hid ((hb1.block _ (lt_of_heap HR0.out)).trans HR0.out)
    clear hb1 AT
    go_wp2_with (first
      | (refine wpList_store_at HR1.out rfl _ _ _ rfl zeroS.cells.toArray rfl rfl ZOK.out.info rfl ZOK.out.one ?_
         intro w3 hq3 ht3 hs3
         have HQ3 := Lib.hid hq3; have HT3 := Lib.hid ht3
         clear hq3 ht3 hs3))
    have hld := run_loadVar_row (P := Tryz.prog) w3 w.heap.size _ 49 zeroS.cells.toArray _ _ HQ3.out Tryz.underlying49 rfl ZOK.out.info
    refine bodyPost_ret (v := .tuple #[enV zeroS, .int .i64 6]) ?_ rfl ?_
    · rw [results_cell_tmp (fn := Tryz.f21) rfl]
      show ((asAddr (.pointer (some ⟨w.heap.size, 0, none⟩))).run Tryz.prog _).andThen _ = _
      simp only [asAddr, Sem.run_pure, Result.andThen_ok, hld]
      rfl
    · exact ⟨rfl, HB1.out.trans (HT3.out.below (by simp) HB1.out.size)⟩
  | some en =>
    have hat := getL_at S.data.toList L
    rw [hg] at AT hat
    obtain ⟨x, hx, hx2⟩ := Option.bind_eq_some_iff.1 hat.symm
    obtain rfl : x = en := by
      split at hx2
      · exact Option.some.inj hx2
      · cases hx2
    obtain ⟨ge, cap, rfl, _⟩ := rowS_form h.row (by intro e; rw [List.eq_nil_of_length_eq_zero e] at hx; simp at hx)
    have hil : atL S.data.toList L < L.length := (List.getElem?_eq_some_iff.1 hx).1
    have HEN : Hid (∀ W' : World, Below w.heap.size w W' → W'.rangeAt ge (atL S.data.toList L * 38) x.cells) := Lib.hid (fun W' hb => (h.below hb).ent hx)
    have HRF : Hid (∀ W' : World, Below w.heap.size w W' → W'.cell? ⟨r, 0, none⟩ = some (.slice (some ⟨ge, 0, none⟩) L.length cap)) := Lib.hid (fun W' hb => cell_of_heap (h.below hb).book)
    have EOK := Lib.hid (h.fits x (getL_path hg).2).enR
    have hll : L.length ≤ 65536 := h.len
    generalize atL S.data.toList L = ia at *
    clear hg h hW hb0 hr0 hx2 hx hat
    dsimp only [Option.getD_some]
    go_enter Tryz.func21, Tryz.ntmps21
    go_wp2_with fail
    change Calls _ _ _ (w.alloc (.cells zeroS.cells.toArray 49)) _
    rw [← HW.out]
    refine AT.out.mono ?_
    rintro e w1 ⟨rfl, hb1⟩
    have HB1 := Lib.hid (HB0.out.trans (hb1.mono HB0.out.size))
    have HR1 := Lib.hid ((hb1.block _ (lt_of_heap HR0.out)).trans HR0.out)
    have HE1 := Lib.hid (HEN.out _ HB1.out)
    have c1 := HRF.out _ HB1.out
    clear hb1 AT
    have hil2 : (ia : Int) < (L.length : Int) := by omega
    go_wp2_with (first
      | (refine wpList_load_mid rfl _ _ rfl ge (ia * 38) rfl x.cells _ HE1.out Tryz.underlying49 rfl EOK.out.infoL ?_)
      | (refine wpList_store_at HR1.out rfl _ _ _ rfl x.cells.toArray rfl rfl EOK.out.info EOK.out.z EOK.out.one ?_
         intro w3 hq3 ht3 hs3
         have HQ3 := Lib.hid hq3; have HT3 := Lib.hid ht3
         clear hq3 ht3 hs3))
    have hld := run_loadVar_row (P := Tryz.prog) w3 w.heap.size _ 49 x.cells.toArray _ _ HQ3.out Tryz.underlying49 rfl EOK.out.info
    refine bodyPost_ret (v := .tuple #[enV x, .int .i64 0]) ?_ rfl ?_
    · rw [results_cell_tmp (fn := Tryz.f21) rfl]
      show ((asAddr (.pointer (some ⟨w.heap.size, 0, none⟩))).run Tryz.prog _).andThen _ = _
      simp only [asAddr, Sem.run_pure, Result.andThen_ok, hld]
      rfl
    · exact ⟨rfl, HB1.out.trans (HT3.out.below (by simp) HB1.out.size)⟩
end Go.Proofs.YtpbhkaokgpacoaaGreatDoor.St
/-
  A region that draws its order and whose LAST operation writes what its loads read: the loads may be taken first, for that operation waits for them.
-/
namespace Go.Proofs.YtpbhkaokgpacoaaGreatDoor.St
open Go.RowKit Go.Maps Go.WideMaps Go.Proofs.YtpbhkaokgpacoaaGreatDoor.Rf

section
variable {P : Program} {ops : Array Oper} {Q : Exit → Act → World → Prop} {md : Region.Mode} {S : World → Prop} {k : Nat}

/-- Whatever order is picked, S holds behind each operation but number k. -/
def Held (P : Program) (md : Region.Mode) (ops : Array Oper) (Q : Exit → Act → World → Prop) (S : World → Prop) (k : Nat) : Nat → Array Bool → Act → World → Prop
  | 0, listed, a, w => Region.ready md ops listed = [] ∧ Q .normal a w
  | n + 1, listed, a, w => (Region.ready md ops listed = [] → Q .normal a w) ∧
      ∀ j ∈ Region.ready md ops listed, wpOp P ops Q j (fun b u => (j ≠ k → S u) ∧ Held P md ops Q S k n (listed.setIfInBounds j true) b u) a w

theorem Held.any : ∀ (n : Nat) (listed : Array Bool) (a : Act) (w : World), Held P md ops Q S k n listed a w → wpAny P md ops Q n listed a w
  | 0, _, _, _, h => h
  | n + 1, _, _, _, h => ⟨h.1, fun j hj => wpOp_mono (fun b u h' => Held.any n _ b u h'.2) (h.2 j hj)⟩
/-- Operation k waits for i. -/
def waits (md : Region.Mode) (ops : Array Oper) (k i : Nat) : Bool :=
  match ops[k]? with
  | some o => o.after.toList.any fun e => Region.binds md e && e.on == i
  | none => false

theorem held_first {i : Nat} {oi : Oper} {v : Value} (hi : ops[i]? = some oi) (hsel : ∀ (j : Nat) (o : Oper) cs b, ops[j]? = some o → o.op ≠ .select cs b)
    (hQ : ∀ c a w, Q (.panic c) (a.put oi.dst v) w → Q (.panic c) a w) (hik : i ≠ k) (hwt : waits md ops k i = true) :
    ∀ (n : Nat) (listed : Array Bool) (a : Act) (w : World),
      (∀ j oj, ops[j]? = some oj → j ≠ i → listed.getD j true = false → (∀ e ∈ oj.after, Region.binds md e = true → e.on ≠ i) → oi.apart ops oj = true) →
      i ∈ Region.ready md ops listed → YieldsIf P ops S oi v a → S w →
      Held P md ops Q S k n (listed.setIfInBounds i true) (a.put oi.dst v) w → Held P md ops Q S k (n + 1) listed a w
  | n, listed, a, w, hfree, hr, hy, hS, H => by
    refine ⟨fun h => (by rw [h] at hr; cases hr), fun j hj => ?_⟩
    by_cases hji : j = i
    · subst hji; exact hy.wpOp hi hS ⟨fun _ => hS, H⟩
    · obtain ⟨hjun, oj, hoj, hall⟩ := mem_ready.1 hj
      have hnot : ∀ e ∈ oj.after, Region.binds md e = true → e.on ≠ i := fun e he hb heq => by
        have h1 := hall e he hb
        have h0 := (mem_ready.1 hr).1
        rw [heq] at h1
        rcases Nat.lt_or_ge i listed.size with h' | h'
        · simp [h'] at h0 h1; rw [h0] at h1; cases h1
        · simp [Array.getElem?_eq_none h'] at h1
      have hjk : j ≠ k := by
        rintro rfl
        unfold waits at hwt
        rw [hoj] at hwt
        obtain ⟨e, he, hb⟩ := List.any_eq_true.1 hwt
        rw [Bool.and_eq_true, beq_iff_eq] at hb
        exact hnot e (Array.mem_toList_iff.1 he) hb.1 hb.2
      cases n with
      | zero =>
        have := ready_mono hj hji
        rw [H.1] at this
        cases this
      | succ n =>
        have h2 := wpOp_putIf hoj (hfree j oj hoj hji hjun hnot) (fun cs b => hsel i oi cs b hi) (fun cs b => hsel j oj cs b hoj) hQ hy (H.2 j (ready_mono hj hji))
        refine wpOp_mono (fun b u h3 => ⟨h3.2.1, held_first hi hsel hQ hik hwt n (listed.setIfInBounds j true) b u ?_ (ready_mono hr (Ne.symm hji)) h3.1 (h3.2.1 hjk) ?_⟩) h2
        · intro m om hm hmi hun hno
          refine hfree m om hm hmi ?_ hno
          by_cases hjm : j = m
          · subst hjm; exact hjun
          · rw [getD_set_ne true hjm] at hun; exact hun
        · rw [Array.setIfInBounds_comm _ _ hji]
          exact h3.2.2
theorem held_take {i : Nat} {oi : Oper} {v : Value} {n : Nat} {listed : Array Bool} {a : Act} {w : World} (hi : ops[i]? = some oi)
    (hs : Region.noSelect ops = true) (hf : Region.free md ops listed i = true) (hr : (Region.ready md ops listed).contains i = true) (hk : (waits md ops k i && !(i == k)) = true)
    (hQ : ∀ c a w, Q (.panic c) (a.put oi.dst v) w → Q (.panic c) a w) (hy : YieldsIf P ops S oi v a) (hS : S w)
    (h : Held P md ops Q S k n (listed.setIfInBounds i true) (a.put oi.dst v) w) : Held P md ops Q S k (n + 1) listed a w :=
  held_first hi (Region.noSelect_spec hs) hQ (by rw [Bool.and_eq_true] at hk; simpa using hk.2) (by rw [Bool.and_eq_true] at hk; exact hk.1) n listed a w (Region.free_spec hi hf) (by simpa using hr) hy hS h

/-- The operations that may come up next. -/
def AllHeld (P : Program) (md : Region.Mode) (ops : Array Oper) (Q : Exit → Act → World → Prop) (S : World → Prop) (k n : Nat) (listed : Array Bool) (a : Act) (w : World) (rs : List Nat) : Prop :=
  ∀ i ∈ rs, wpOp P ops Q i (fun b u => (i ≠ k → S u) ∧ Held P md ops Q S k n (listed.setIfInBounds i true) b u) a w
theorem AllHeld.nil {n : Nat} {listed : Array Bool} {a : Act} {w : World} : AllHeld P md ops Q S k n listed a w [] := fun _ h => by cases h
theorem AllHeld.cons {n : Nat} {listed : Array Bool} {a : Act} {w : World} {i : Nat} {o : Oper} {rs : List Nat} (ho : ops[i]? = some o)
    (h : ∀ K' : Act → World → Prop, Shut (∀ a w, (i ≠ k → S w) → ((i ≠ k → S w) → Held P md ops Q S k n (listed.setIfInBounds i true) a w) → K' a w) → if Region.wanted o (yielded ops a.tmps) = true then Oper.wp P o a w K' Q else K' (a.put o.dst undef) w)
    (hs : AllHeld P md ops Q S k n listed a w rs) : AllHeld P md ops Q S k n listed a w (i :: rs) := fun j hj => by
  rcases List.mem_cons.1 hj with rfl | hj
  · exact wpOp_step ho (fun K' hK => h K' (fun a w hS hW => hK a w ⟨hS, hW hS⟩))
  · exact hs j hj
theorem held_ready {rs : List Nat} {n : Nat} {listed : Array Bool} {a : Act} {w : World} (hr : Region.ready md ops listed = rs) (hne : rs ≠ [])
    (h : AllHeld P md ops Q S k n listed a w rs) : Held P md ops Q S k (n + 1) listed a w :=
  ⟨fun e => absurd (hr.symm.trans e) hne, by rw [hr]; exact h⟩
theorem held_done {listed : Array Bool} {a : Act} {w : World} (hr : Region.ready md ops listed = []) (h : Q .normal a w) : ∀ n, Held P md ops Q S k n listed a w
  | 0 => ⟨hr, h⟩
  | _ + 1 => ⟨fun _ => h, by rw [hr]; simp⟩
theorem region_held {id : Nat} {a : Act} {w : World} (hm : P.follows .mixedOrders = true) (hS : S w.drew)
    (h : S w.drew → Held P .any ops Q S k ops.size (Array.replicate ops.size false) a w.drew) : (Code.region id ops true).wp P Q a w :=
  wp_region_any hm (Held.any _ _ _ _ (h hS))
end
end Go.Proofs.YtpbhkaokgpacoaaGreatDoor.St
