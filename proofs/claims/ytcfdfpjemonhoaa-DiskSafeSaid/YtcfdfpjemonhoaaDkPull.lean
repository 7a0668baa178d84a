/-
  The contracts of the disk's Pull and Plan.
-/
import Derived.Test.YtcfdfpjemonhoaaDkDirs
import Derived.Deep.RegionWith
namespace Go.Proofs.Ytcfdfpjemonhoaa.Dk
open Go.RowKit Go.Maps Go.WideMaps

/-- A crash, as a value. -/
def crashV (d : Int) (v : Value) : Value := .agg #[.int .i64 d, v]

theorem pull_end {B : Nat} {w W w2 : World} {Y : Lay} {D : Dk} (c : Int × List Int) (v' : Value) (hb : Below w.heap.size w W.drew) (h : DiskAt B W.drew Y D) (hd : D.down = false) (hb2 : Below W.drew.heap.size W.drew w2)
    (hk : ∀ X : List Nat, (∀ x ∈ X, x < W.drew.heap.size) → KeepAt w2 X v' c.2) :
    OpPost B Y w (.int .i64 0) { D with down := true, crash := c } (.returned (.int .i64 0)) (((w2.setCell ⟨Y.g, 12, none⟩ (.bool true)).setCell ⟨Y.g, 10, none⟩ (.int .i64 c.1)).setCell ⟨Y.g, 11, none⟩ v') := by
  have h2 := h.below hb2
  have hne : ∀ b, b ≠ Y.g → (((w2.setCell ⟨Y.g, 12, none⟩ (.bool true)).setCell ⟨Y.g, 10, none⟩ (.int .i64 c.1)).setCell ⟨Y.g, 11, none⟩ v').heap[b]? = w2.heap[b]? := fun b hne => (Below.heap_setCell _ _ _ _ hne).trans ((Below.heap_setCell _ _ _ _ hne).trans (Below.heap_setCell _ _ _ _ hne))
  have hsz : w2.heap.size ≤ (((w2.setCell ⟨Y.g, 12, none⟩ (.bool true)).setCell ⟨Y.g, 10, none⟩ (.int .i64 c.1)).setCell ⟨Y.g, 11, none⟩ v').heap.size := by simp [World.setCell]
  have hx : ∀ b, b < w2.heap.size → b ∉ Y.blocks → (((w2.setCell ⟨Y.g, 12, none⟩ (.bool true)).setCell ⟨Y.g, 10, none⟩ (.int .i64 c.1)).setCell ⟨Y.g, 11, none⟩ v').heap[b]? = w2.heap[b]? := fun b _ hnb => hne b (fun e => hnb (by rw [e]; exact mem_g Y))
  have hfin := h2.scalars Y.kn v' { D with down := true, crash := c } rfl rfl rfl rfl
    (by rw [setCell_heap _ _ _ _ _ _ (setCell_heap _ _ _ _ _ _ (setCell_heap _ _ _ _ _ _ h2.disk))]; simp [cellsOf]) hsz (fun b _ hb => hne b hb) (h2.kn.kept hsz hx (fun _ _ x => x)) ((hk Y.blocks h.lt).kept hsz hx (fun _ _ x => x))
  refine ⟨_, rfl, hfin, ?_, fun b hb => .inl hb, rfl⟩
  exact ((((Turn.of_below (X := Y.blocks) hb).trans (Turn.of_below (X := []) hb2) (by simp)).setCell (.inl (mem_g Y)) _).setCell (.inl (mem_g Y)) _).setCell (.inl (mem_g Y)) _

set_option maxHeartbeats 4000000 in
set_option maxRecDepth 100000 in
theorem pull_any (B : Nat) (w : World) (Y : Lay) (D : Dk) (c : Int × List Int) (v : Value) (hv : KeepAt w Y.blocks v c.2) (h : DiskAt B w Y D) :
    Calls Try.prog 19 #[ptr Y.g, crashV c.1 v] w (OpPost B Y w (.int .i64 (pull D c).1) (pull D c).2) := by
  obtain ⟨va, vcap, rfl, hks, hkc⟩ := hv
  have hb0 : Below w.heap.size w (w.alloc (.cells #[.int .i64 c.1, .slice va c.2.length vcap] 43)) := (Below.refl _ _).alloc (Nat.le_refl _) _
  have h0 := h.below hb0
  have hk0 : KeepAt (w.alloc (.cells #[.int .i64 c.1, .slice va c.2.length vcap] 43)) Y.blocks (.slice va c.2.length vcap) c.2 :=
    KeepAt.kept (w := w) (X := Y.blocks) ⟨va, vcap, rfl, hks, hkc⟩ hb0.size (fun b hb _ => hb0.block b hb) (fun _ _ x => x)
  have CK := Lib.hid (clone_keep hk0)
  have hk1 : KeepAt (w.alloc (.cells #[.int .i64 c.1, .slice va c.2.length vcap] 43)).drew Y.blocks (.slice va c.2.length vcap) c.2 := hk0
  have c12 : w.cell? ⟨Y.g, 12, none⟩ = some (.bool D.down) := h.cell 12
  have hgl : Y.g < w.heap.size := lt_of_heap h.disk
  have hlt := Lib.hid h.lt
  have H0 := Lib.hid h0; have HB0 := Lib.hid hb0; have HS0 := Lib.hid (one_size w (.cells #[.int .i64 c.1, .slice va c.2.length vcap] 43))
  have hq0 := (MapKept.heap_alloc w (.cells #[.int .i64 c.1, .slice va c.2.length vcap] 43)).1
  have HQ0 := Lib.hid hq0
  unfold ptr crashV
  clear hk0 h0 hkc hb0 hq0 h
  cases hd : D.down with
  | true =>
    have e1 : pull D c = (8, D) := by unfold pull; rw [hd]; rfl
    rw [e1]
    rw [hd] at c12
    clear e1
    go_enter Try.func19, Try.ntmps19
    go_wp2
    go_ret
    exact opPost_same _ H0.out (Turn.of_below (X := []) HB0.out) (by simp) rfl rfl
  | false =>
    have e1 : pull D c = (0, { D with down := true, crash := c }) := by unfold pull; rw [hd]; rfl
    rw [e1]
    rw [hd] at c12
    clear e1
    go_enter Try.func19, Try.ntmps19
    go_wp2
    have H1 : Hid (DiskAt B (w.alloc (.cells #[.int .i64 c.1, .slice va c.2.length vcap] 43)).drew Y D) := Lib.hid (H0.out.kept (Nat.le_refl _) (fun _ _ => rfl))
    have HQ1 : Hid ((w.alloc (.cells #[.int .i64 c.1, .slice va c.2.length vcap] 43)).drew.heap[w.heap.size]? = some (.cells #[.int .i64 c.1, .slice va c.2.length vcap] 43)) := HQ0
    have HB1 : Hid (Below w.heap.size w (w.alloc (.cells #[.int .i64 c.1, .slice va c.2.length vcap] 43)).drew) := Lib.hid HB0.out.drew
    have CK1 : Hid (Calls Try.prog 39 #[.slice va c.2.length vcap] (w.alloc (.cells #[.int .i64 c.1, .slice va c.2.length vcap] 43)).drew (KeepPost (w.alloc (.cells #[.int .i64 c.1, .slice va c.2.length vcap] 43)).drew c.2)) := Lib.hid (clone_keep (X := Y.blocks) hk1)
    clear CK H0 HQ0 HB0 hk1
    have hs1 : (w.alloc (.cells #[.int .i64 c.1, .slice va c.2.length vcap] 43)).drew.heap.size = w.heap.size + 1 := HS0.out
    have HS1 := Lib.hid hs1
    clear hs1 HS0
    generalize (w.alloc (.cells #[.int .i64 c.1, .slice va c.2.length vcap] 43)) = W at *
    have q0 : W.drew.cell? ⟨w.heap.size, 0, none⟩ = some (.int .i64 c.1) := cell_of_heap HQ1.out
    have q1 : W.drew.cell? ⟨w.heap.size, 1, none⟩ = some (.slice va c.2.length vcap) := cell_of_heap HQ1.out
    go_region_with (go_at_call 39; refine CK1.out.mono ?_; rintro e w2 ⟨v', rfl, hk2, hb2⟩; obtain ⟨va', vcap', rfl, _⟩ := hk2 [] (by simp); have g2 := (hb2.block _ (lt_of_heap H1.out.disk)).trans H1.out.disk; have r2 := (hb2.block _ (lt_of_heap HQ1.out)).trans HQ1.out; have p0 : w2.cell? ⟨w.heap.size, 0, none⟩ = some (.int .i64 c.1) := cell_of_heap r2; have p1 : w2.cell? ⟨w.heap.size, 1, none⟩ = some (.slice va c.2.length vcap) := cell_of_heap r2; have d12 : w2.cell? ⟨Y.g, 12, none⟩ = some (.bool D.down) := cell_of_heap g2; have f12 : w2.frozen? ⟨Y.g, 12, none⟩ = false := frozen_of_heap g2; have d10 : w2.cell? ⟨Y.g, 10, none⟩ = some (.int .i64 D.crash.1) := cell_of_heap g2; have f10 : w2.frozen? ⟨Y.g, 10, none⟩ = false := frozen_of_heap g2; have d11 : w2.cell? ⟨Y.g, 11, none⟩ = some Y.kc := cell_of_heap g2; have f11 : w2.frozen? ⟨Y.g, 11, none⟩ = false := frozen_of_heap g2; have G2 := Lib.hid g2; have HK2 := Lib.hid hk2; have HB2 := Lib.hid hb2; clear g2 r2 hk2 hb2)
    all_goals go_wp2
    all_goals go_ret
    all_goals exact pull_end c _ HB1.out H1.out hd HB2.out HK2.out
theorem plan_end {B : Nat} {w W w2 : World} {Y : Lay} {D : Dk} (c : Int × List Int) (n : Nat) (v' : Value) (hb : Below w.heap.size w W.drew) (h : DiskAt B W.drew Y D) (hb2 : Below W.drew.heap.size W.drew w2)
    (hk : ∀ X : List Nat, (∀ x ∈ X, x < W.drew.heap.size) → KeepAt w2 X v' c.2) :
    OpPost B Y w (.int .i64 0) { D with left := n, next := c } (.returned (.int .i64 0)) (((w2.setCell ⟨Y.g, 7, none⟩ (.int .i64 (n : Int))).setCell ⟨Y.g, 8, none⟩ (.int .i64 c.1)).setCell ⟨Y.g, 9, none⟩ v') := by
  have h2 := h.below hb2
  have hne : ∀ b, b ≠ Y.g → (((w2.setCell ⟨Y.g, 7, none⟩ (.int .i64 (n : Int))).setCell ⟨Y.g, 8, none⟩ (.int .i64 c.1)).setCell ⟨Y.g, 9, none⟩ v').heap[b]? = w2.heap[b]? := fun b hne => (Below.heap_setCell _ _ _ _ hne).trans ((Below.heap_setCell _ _ _ _ hne).trans (Below.heap_setCell _ _ _ _ hne))
  have hsz : w2.heap.size ≤ (((w2.setCell ⟨Y.g, 7, none⟩ (.int .i64 (n : Int))).setCell ⟨Y.g, 8, none⟩ (.int .i64 c.1)).setCell ⟨Y.g, 9, none⟩ v').heap.size := by simp [World.setCell]
  have hx : ∀ b, b < w2.heap.size → b ∉ Y.blocks → (((w2.setCell ⟨Y.g, 7, none⟩ (.int .i64 (n : Int))).setCell ⟨Y.g, 8, none⟩ (.int .i64 c.1)).setCell ⟨Y.g, 9, none⟩ v').heap[b]? = w2.heap[b]? := fun b _ hnb => hne b (fun e => hnb (by rw [e]; exact mem_g Y))
  have hfin := h2.scalars v' Y.kc { D with left := n, next := c } rfl rfl rfl rfl
    (by rw [setCell_heap _ _ _ _ _ _ (setCell_heap _ _ _ _ _ _ (setCell_heap _ _ _ _ _ _ h2.disk))]; simp [cellsOf]) hsz (fun b _ hb => hne b hb) ((hk Y.blocks h.lt).kept hsz hx (fun _ _ x => x)) (h2.kc.kept hsz hx (fun _ _ x => x))
  refine ⟨_, rfl, hfin, ?_, fun b hb => .inl hb, rfl⟩
  exact ((((Turn.of_below (X := Y.blocks) hb).trans (Turn.of_below (X := []) hb2) (by simp)).setCell (.inl (mem_g Y)) _).setCell (.inl (mem_g Y)) _).setCell (.inl (mem_g Y)) _

set_option maxHeartbeats 4000000 in
set_option maxRecDepth 100000 in
/-- Plan at the next call. -/
theorem plan_one (B : Nat) (w : World) (Y : Lay) (D : Dk) (c : Int × List Int) (v : Value) (hv : KeepAt w Y.blocks v c.2) (h : DiskAt B w Y D) :
    Calls Try.prog 23 #[ptr Y.g, .int .i64 1, crashV c.1 v] w (OpPost B Y w (.int .i64 0) { D with left := 1, next := c }) := by
  obtain ⟨va, vcap, rfl, hks, hkc⟩ := hv
  have hb0 : Below w.heap.size w (w.alloc (.cells #[.int .i64 c.1, .slice va c.2.length vcap] 43)) := (Below.refl _ _).alloc (Nat.le_refl _) _
  have h0 := h.below hb0
  have hk0 : KeepAt (w.alloc (.cells #[.int .i64 c.1, .slice va c.2.length vcap] 43)) Y.blocks (.slice va c.2.length vcap) c.2 :=
    KeepAt.kept (w := w) (X := Y.blocks) ⟨va, vcap, rfl, hks, hkc⟩ hb0.size (fun b hb _ => hb0.block b hb) (fun _ _ x => x)
  have hk1 : KeepAt (w.alloc (.cells #[.int .i64 c.1, .slice va c.2.length vcap] 43)).drew Y.blocks (.slice va c.2.length vcap) c.2 := hk0
  have hgl : Y.g < w.heap.size := lt_of_heap h.disk
  have hlt := Lib.hid h.lt
  have H0 := Lib.hid h0; have HB0 := Lib.hid hb0
  have hq0 := (MapKept.heap_alloc w (.cells #[.int .i64 c.1, .slice va c.2.length vcap] 43)).1
  have HQ0 := Lib.hid hq0
  unfold ptr crashV
  clear hk0 h0 hkc hb0 hq0 h
  go_enter Try.func23, Try.ntmps23
  go_wp2
  have H1 : Hid (DiskAt B (w.alloc (.cells #[.int .i64 c.1, .slice va c.2.length vcap] 43)).drew Y D) := Lib.hid (H0.out.kept (Nat.le_refl _) (fun _ _ => rfl))
  have HQ1 : Hid ((w.alloc (.cells #[.int .i64 c.1, .slice va c.2.length vcap] 43)).drew.heap[w.heap.size]? = some (.cells #[.int .i64 c.1, .slice va c.2.length vcap] 43)) := HQ0
  have HB1 : Hid (Below w.heap.size w (w.alloc (.cells #[.int .i64 c.1, .slice va c.2.length vcap] 43)).drew) := Lib.hid HB0.out.drew
  have CK1 : Hid (Calls Try.prog 39 #[.slice va c.2.length vcap] (w.alloc (.cells #[.int .i64 c.1, .slice va c.2.length vcap] 43)).drew (KeepPost (w.alloc (.cells #[.int .i64 c.1, .slice va c.2.length vcap] 43)).drew c.2)) := Lib.hid (clone_keep (X := Y.blocks) hk1)
  clear H0 HQ0 HB0 hk1
  generalize (w.alloc (.cells #[.int .i64 c.1, .slice va c.2.length vcap] 43)) = W at *
  have q0 : W.drew.cell? ⟨w.heap.size, 0, none⟩ = some (.int .i64 c.1) := cell_of_heap HQ1.out
  have q1 : W.drew.cell? ⟨w.heap.size, 1, none⟩ = some (.slice va c.2.length vcap) := cell_of_heap HQ1.out
  go_region_with (go_at_call 39; refine CK1.out.mono ?_; rintro e w2 ⟨v', rfl, hk2, hb2⟩; obtain ⟨va', vcap', rfl, _⟩ := hk2 [] (by simp); have g2 := (hb2.block _ (lt_of_heap H1.out.disk)).trans H1.out.disk; have r2 := (hb2.block _ (lt_of_heap HQ1.out)).trans HQ1.out; have p0 : w2.cell? ⟨w.heap.size, 0, none⟩ = some (.int .i64 c.1) := cell_of_heap r2; have p1 : w2.cell? ⟨w.heap.size, 1, none⟩ = some (.slice va c.2.length vcap) := cell_of_heap r2; have d7 : w2.cell? ⟨Y.g, 7, none⟩ = some (.int .i64 (D.left : Int)) := cell_of_heap g2; have f7 : w2.frozen? ⟨Y.g, 7, none⟩ = false := frozen_of_heap g2; have d8 : w2.cell? ⟨Y.g, 8, none⟩ = some (.int .i64 D.next.1) := cell_of_heap g2; have f8 : w2.frozen? ⟨Y.g, 8, none⟩ = false := frozen_of_heap g2; have d9 : w2.cell? ⟨Y.g, 9, none⟩ = some Y.kn := cell_of_heap g2; have f9 : w2.frozen? ⟨Y.g, 9, none⟩ = false := frozen_of_heap g2; have G2 := Lib.hid g2; have HK2 := Lib.hid hk2; have HB2 := Lib.hid hb2; clear g2 r2 hk2 hb2)
  all_goals go_wp2
  all_goals go_ret
  all_goals exact plan_end c 1 _ HB1.out H1.out HB2.out HK2.out
end Go.Proofs.Ytcfdfpjemonhoaa.Dk
