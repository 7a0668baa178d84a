/-
  For the disk's Twin: the files as far as they are made; the copies of the directories and rows.
-/
import Derived.Test.YtcfdfpjemonhoaaDkClone
import Derived.Deep.AppendLies
namespace Go.Proofs.Ytcfdfpjemonhoaa.Dk
open Go.RowKit Go.Maps Go.WideMaps
/-- Another disk like this one, in memory of its own. -/
def TwinPost (D : Dk) (w : World) (e : Ending) (w' : World) : Prop := ∃ Y' : Lay, e = .returned (ptr Y'.g) ∧ DiskAt w.heap.size w' Y' D ∧ Below w.heap.size w w'

theorem row_below {w w' : World} {B : Nat} {e : TypeId} {v : Value} {n : Nat} {xs : List Value} (h : w.ownsRow B e 1 v n xs) (hb : Below w.heap.size w w') : w'.ownsRow B e 1 v n xs := row_kept h (fun b _ hlt => hb.block b hlt)
theorem cell_second (w : World) (A : Obj) (x : Value) (t : TypeId) (j : Nat) (u : Value) (h : [x][j]? = some u) : ((w.alloc A).alloc (.cells #[x] t)).cell? ((⟨w.heap.size + 1, 0, none⟩ : Addr).add j) = some u := by
  have := cell_one_new (w.alloc A) x t j u h
  rwa [one_size] at this
theorem two_old {w : World} {q : Nat} {o : Obj} (h : w.heap[q]? = some o) (A G : Obj) : ((w.alloc A).alloc G).heap[q]? = some o := by
  have := lt_of_heap h
  rw [Below.heap_alloc _ _ _ (by rw [one_size]; omega), Below.heap_alloc _ _ _ this]; exact h
theorem twin_frozen {w w' : World} {g j : Nat} {cur : Array Value} {T : TypeId} {row : Option Nat} (h : w.heap[g]? = some (.cells cur T)) (hg : w.grownBy w' row) (hne : row ≠ some g) : w'.frozen? ⟨g, j, none⟩ = false :=
  frozen_of_heap ((hg.block g (lt_of_heap h) (fun e => hne e.symm)).trans h)
theorem twin_cell {w w' : World} {g j : Nat} {cur : Array Value} {T : TypeId} {row : Option Nat} (h : w.heap[g]? = some (.cells cur T)) (hg : w.grownBy w' row) (hne : row ≠ some g) : w'.cell? ⟨g, j, none⟩ = cur[j]? :=
  cell_of_heap ((hg.block g (lt_of_heap h) (fun e => hne e.symm)).trans h)

theorem twin_at {v : Value} {g n cap H : Nat} (h : v.ownBlock = some g ∨ g = H) : ∀ b ∈ ob (.slice (some ⟨g, 0, none⟩) n cap), b ∈ ob v ∨ b = H := by
  intro b hm
  have : b = g := by simpa [ob, Value.ownBlock] using hm
  subst this
  rcases h with k | k
  · left; rw [ob, k]; simp
  · exact .inr k

/-- The twin's files, as far as they are made. -/
structure TwinAt (w : World) (Y : Lay) (D : Dk) (k : Nat) (vt : Value) (fsT : List (Nat × Value)) (wr : World) : Prop where
  disk : wr.heap[w.heap.size]? = some (.cells (cellsOf { Y with vf := vt } D) 63)
  files : wr.ownsRow (w.heap.size + 1) 68 1 vt k (fsT.map fun p => ptr p.1)
  len : fsT.length = k
  each : ∀ (i : Nat) p f, fsT[i]? = some p → D.files[i]? = some f → wr.heap[p.1]? = some (.cells #[p.2, .int .i64 (f.safe : Int)] 71) ∧ wr.ownsRow (w.heap.size + 1) 5 1 p.2 f.data.length (Lib.byteCells f.data)
  nodup : (ob vt ++ fsT.flatMap fb).Nodup
  ge : ∀ b ∈ ob vt ++ fsT.flatMap fb, w.heap.size + 1 ≤ b
  lt : ∀ b ∈ ob vt ++ fsT.flatMap fb, b < wr.heap.size
  below : Below w.heap.size w wr

theorem TwinAt.drew {w : World} {Y : Lay} {D : Dk} {k : Nat} {vt : Value} {fsT : List (Nat × Value)} {wr : World} (h : TwinAt w Y D k vt fsT wr) : TwinAt w Y D k vt fsT wr.drew :=
  ⟨h.disk, h.files.drew, h.len, fun i p f h1 h2 => ⟨(h.each i p f h1 h2).1, (h.each i p f h1 h2).2.drew⟩, h.nodup, h.ge, h.lt, h.below.drew⟩

/-- A file more. -/
theorem TwinAt.next {w : World} {Y : Lay} {D : Dk} {k : Nat} {vt : Value} {fsT : List (Nat × Value)} {wr w6 w8 : World} {pv v' : Value} {f : Fl} (h : TwinAt w Y D k vt fsT wr) (hf : D.files[k]? = some f)
    (hrow : w6.ownsRow wr.heap.size 5 1 pv f.data.length (Lib.byteCells f.data)) (hb6 : Below wr.heap.size wr w6)
    (hown : w8.ownsRow (w.heap.size + 1) 68 1 v' (k + 1) ((fsT.map fun p => ptr p.1) ++ [ptr w6.heap.size]))
    (hg : ((w6.alloc (.cells #[pv, .int .i64 (f.safe : Int)] 71)).alloc (.cells #[ptr w6.heap.size] 68)).grownBy w8 vt.ownBlock)
    (hat : ∀ b ∈ ob v', b ∈ ob vt ∨ b = w6.heap.size + 2) :
    TwinAt w Y D (k + 1) v' (fsT ++ [(w6.heap.size, pv)]) (w8.setCell ⟨w.heap.size, 2, none⟩ v') := by
  have hs6 := hb6.size
  have hs8 : w6.heap.size + 2 ≤ w8.heap.size := by have := hg.size; rw [one_size, one_size] at this; omega
  have hwr := lt_of_heap h.disk
  have hvt : w.heap.size ∉ ob vt := fun hm => by have := h.ge _ (List.mem_append_left _ hm); omega
  have same8 : ∀ b, b < w6.heap.size + 2 → b ∉ ob vt → w8.heap[b]? = ((w6.alloc (.cells #[pv, .int .i64 (f.safe : Int)] 71)).alloc (.cells #[ptr w6.heap.size] 68)).heap[b]? := fun b hb hnb =>
    hg.block b (by rw [one_size, one_size]; omega) (fun e => hnb (by rw [ob, ← e]; simp))
  have same : ∀ b, b < wr.heap.size → b ∉ ob vt → b ≠ w.heap.size → (w8.setCell ⟨w.heap.size, 2, none⟩ v').heap[b]? = wr.heap[b]? := fun b hb hnb hne => by
    rw [Below.heap_setCell _ _ _ _ hne, same8 b (by omega) hnb, Below.heap_alloc _ _ _ (by rw [one_size]; omega), Below.heap_alloc _ _ _ (by omega)]
    exact hb6.block b hb
  have same6 : ∀ b, b < w6.heap.size → b ∉ ob vt → b ≠ w.heap.size → (w8.setCell ⟨w.heap.size, 2, none⟩ v').heap[b]? = w6.heap[b]? := fun b hb hnb hne => by
    rw [Below.heap_setCell _ _ _ _ hne, same8 b (by omega) hnb, Below.heap_alloc _ _ _ (by rw [one_size]; omega), Below.heap_alloc _ _ _ (by omega)]
  have hvtl : ∀ b ∈ ob vt, b < wr.heap.size := fun b hm => h.lt b (List.mem_append_left _ hm)
  have hpl : ∀ b ∈ ob pv, wr.heap.size ≤ b ∧ b < w6.heap.size := fun b hm => ⟨row_ge hrow b hm, row_lt hrow b hm⟩
  have hfl : ∀ b ∈ fsT.flatMap fb, b ∉ ob vt := fun b hm hv => by
    have := h.nodup
    rw [List.nodup_append] at this
    exact this.2.2 b hv b hm rfl
  refine ⟨?_, ?_, by simp [h.len], ?_, ?_, ?_, ?_, ?_⟩
  · have hd8 : w8.heap[w.heap.size]? = some (.cells (cellsOf { Y with vf := vt } D) 63) := by
      rw [same8 _ (by omega) hvt, Below.heap_alloc _ _ _ (by rw [one_size]; omega), Below.heap_alloc _ _ _ (by omega), hb6.block _ hwr]
      exact h.disk
    rw [setCell_heap _ _ _ _ _ _ hd8]
    simp [cellsOf]
  · have e : (fsT ++ [(w6.heap.size, pv)]).map (fun p => ptr p.1) = (fsT.map fun p => ptr p.1) ++ [ptr w6.heap.size] := by simp
    rw [e]
    exact row_kept hown (fun b hm _ => Below.heap_setCell _ _ _ _ (by
      have h1 := hat b hm
      intro e
      have e' : b = w.heap.size := e
      rcases h1 with k | k
      · exact hvt (e' ▸ k)
      · omega))
  · intro i p g h1 h2
    by_cases hi : i < k
    · have h1' : fsT[i]? = some p := by rw [← h1]; exact (List.getElem?_append_left (by rw [h.len]; exact hi)).symm
      obtain ⟨k1, k2⟩ := h.each i p g h1' h2
      have hm : ∀ b ∈ fb p, b ∈ fsT.flatMap fb := fun b hb => List.mem_flatMap.2 ⟨p, List.mem_of_getElem? h1', hb⟩
      have hs : ∀ b ∈ fb p, (w8.setCell ⟨w.heap.size, 2, none⟩ v').heap[b]? = wr.heap[b]? := fun b hb => same b (h.lt b (List.mem_append_right _ (hm b hb))) (hfl b (hm b hb)) (by have := h.ge b (List.mem_append_right _ (hm b hb)); omega)
      exact ⟨(hs _ (by simp [fb])).trans k1, row_kept k2 (fun b hb _ => hs b (by simp [fb, hb]))⟩
    · have hl := h.len
      rw [List.getElem?_append_right (by omega), List.getElem?_singleton] at h1
      split at h1
      · obtain rfl := Option.some.inj h1
        have hik : i = k := by omega
        subst hik
        obtain rfl := Option.some.inj (hf.symm.trans h2)
        refine ⟨?_, row_mono (row_kept hrow (fun b hb hlt => same6 b hlt (fun hv => by have := hvtl b hv; have := (hpl b hb).1; omega) (by have := (hpl b hb).1; omega))) (by omega)⟩
        show (w8.setCell ⟨w.heap.size, 2, none⟩ v').heap[w6.heap.size]? = _
        rw [Below.heap_setCell _ _ _ _ (show w6.heap.size ≠ w.heap.size by omega), same8 _ (by omega) (fun hv => by have := hvtl _ hv; omega), Below.heap_alloc _ _ _ (by rw [one_size]; omega)]
        exact (MapKept.heap_alloc w6 _).1
      · simp at h1
  · have hnew : ∀ b ∈ ob v', b ∉ fsT.flatMap fb ∧ b ∉ fb (w6.heap.size, pv) := by
      intro b hm
      rcases hat b hm with k | k
      · refine ⟨fun hq => hfl b hq k, fun hq => ?_⟩
        have := hvtl b k
        simp only [fb, List.mem_cons] at hq
        rcases hq with rfl | hq
        · omega
        · have := (hpl b hq).1; omega
      · refine ⟨fun hq => by have := h.lt b (List.mem_append_right _ hq); omega, fun hq => ?_⟩
        simp only [fb, List.mem_cons] at hq
        rcases hq with rfl | hq
        · omega
        · have := (hpl b hq).2; omega
    have hn2 := h.nodup
    rw [List.nodup_append] at hn2
    rw [List.flatMap_append, List.flatMap_singleton, List.nodup_append]
    refine ⟨ob_nodup v', ?_, ?_⟩
    · rw [List.nodup_append]
      refine ⟨hn2.2.1, ?_, ?_⟩
      · rw [fb, List.nodup_cons]
        exact ⟨fun hm => by have := (hpl _ hm).2; omega, ob_nodup pv⟩
      · intro x hx y hy e
        subst e
        have := h.lt x (List.mem_append_right _ hx)
        simp only [fb, List.mem_cons] at hy
        rcases hy with rfl | hy
        · omega
        · have := (hpl _ hy).1; omega
    · intro x hx y hy e
      subst e
      rcases List.mem_append.1 hy with k | k
      · exact (hnew x hx).1 k
      · exact (hnew x hx).2 k
  · intro b hm
    rw [List.flatMap_append, List.flatMap_singleton] at hm
    rcases List.mem_append.1 hm with k | k
    · rcases hat b k with k | k
      · exact h.ge b (List.mem_append_left _ k)
      · omega
    · rcases List.mem_append.1 k with k | k
      · exact h.ge b (List.mem_append_right _ k)
      · simp only [fb, List.mem_cons] at k
        rcases k with rfl | k
        · omega
        · have := (hpl b k).1; omega
  · intro b hm
    have hsz : (w8.setCell ⟨w.heap.size, 2, none⟩ v').heap.size = w8.heap.size := by simp [World.setCell]
    rw [hsz]
    rw [List.flatMap_append, List.flatMap_singleton] at hm
    rcases List.mem_append.1 hm with k | k
    · exact row_lt hown b k
    · rcases List.mem_append.1 k with k | k
      · have := h.lt b (List.mem_append_right _ k); omega
      · simp only [fb, List.mem_cons] at k
        rcases k with rfl | k
        · omega
        · have := (hpl b k).2; omega
  · have hbs := h.below.size
    have hlt8 : ∀ b, b < w.heap.size → (w8.setCell ⟨w.heap.size, 2, none⟩ v').heap[b]? = w.heap[b]? := fun b hb => (same b (by omega) (fun hv => by have := h.ge b (List.mem_append_left _ hv); omega) (by omega)).trans (h.below.block b hb)
    have b6 : Below w.heap.size w w6 := h.below.trans (hb6.mono hbs)
    exact ⟨hg.os.trans b6.os, hg.tape.trans b6.tape, hg.output.trans b6.output, by simp [World.setCell]; omega, hlt8⟩

/-- What stands of the old world, and of the twin's own block. -/
def TwinQ (w w' : World) : Prop := Below w.heap.size w w' ∧ ∃ cur : Array Value, w'.heap[w.heap.size]? = some (.cells cur 63) ∧ cur.size = 13
theorem TwinQ.step {w w' w'' : World} (h : TwinQ w w') (hb : Below w'.heap.size w' w'') : TwinQ w w'' := by
  obtain ⟨h1, cur, h2, h3⟩ := h
  exact ⟨h1.trans (hb.mono h1.size), cur, (hb.block _ (lt_of_heap h2)).trans h2, h3⟩
theorem TwinQ.set {w w' : World} {j : Nat} {v : Value} (h : TwinQ w w') : TwinQ w (w'.setCell ⟨w.heap.size, j, none⟩ v) := by
  obtain ⟨h1, cur, h2, h3⟩ := h
  exact ⟨h1.setCell (p := ⟨w.heap.size, j, none⟩) (Nat.le_refl _) v, _, setCell_heap _ _ _ _ _ _ h2, by simpa using h3⟩
theorem TwinQ.frozen {w w' : World} (h : TwinQ w w') (j : Nat) : w'.frozen? ⟨w.heap.size, j, none⟩ = false := by
  obtain ⟨h1, cur, h2, h3⟩ := h
  exact frozen_of_heap h2
theorem TwinQ.cell {w w' : World} (h : TwinQ w w') (j : Nat) (hj : j < 13) : ∃ x, w'.cell? ⟨w.heap.size, j, none⟩ = some x := by
  obtain ⟨h1, cur, h2, h3⟩ := h
  exact ⟨_, (cell_of_heap h2).trans (Array.getElem?_eq_getElem (by omega))⟩
theorem TwinQ.old {w w' : World} (h : TwinQ w w') {p : Addr} (hp : p.block < w.heap.size) : w'.cell? p = w.cell? p := h.1.cell hp

theorem twin_map {w w' : World} {b : Nat} {m : DM} (hd : Dir w b 1000000 m) (hq : TwinQ w w') : Calls Try.prog 38 #[.map (some b)] w' fun e w'' => e = .returned (.map (some w'.heap.size)) ∧ Dir w'' w'.heap.size 1000000 m ∧ Below w'.heap.size w' w'' ∧ TwinQ w w'' := by
  refine (Try.mapClone 9 (plainElem (H := Unit) Try.prog 3) b 1000000 _ w' (ownsMap_block hd (hq.1.block _ hd.lt))).mono ?_
  rintro e w'' ⟨rfl, h1, _, h2⟩
  exact ⟨rfl, h1, h2, hq.step h2⟩

theorem twin_chs {w w' : World} {B n c : Nat} {a : Option Addr} {xs : List Value} (hr : w.ownsRow B 83 1 (.slice a n c) n xs) (h1 : ∀ u ∈ xs, u.oneCell' = true) (hn : n ≤ 1000000) (hq : TwinQ w w') :
    Calls Try.prog 50 #[.slice a n c] w' fun e w'' => ∃ a' c', e = .returned (.slice a' n c') ∧ w''.ownsRow w'.heap.size 83 1 (.slice a' n c') n xs ∧ Below w'.heap.size w' w'' ∧ TwinQ w w'' := by
  refine (cloneChanges w' B a n c xs (row_kept hr (fun b _ hlt => hq.1.block b hlt)) h1 (by omega)).mono ?_
  rintro e w'' ⟨v', rfl, h2, _, h3⟩
  obtain ⟨a', c', rfl⟩ := row_slice h2
  exact ⟨a', c', rfl, h2, h3, hq.step h3⟩

theorem twin_keep {w w' : World} {X : List Nat} {a : Option Addr} {c : Nat} {ks : List Int} (hk : KeepAt w X (.slice a ks.length c) ks) (hX : ∀ x ∈ X, x < w.heap.size) (hq : TwinQ w w') :
    Calls Try.prog 39 #[.slice a ks.length c] w' fun e w'' => ∃ a' c', e = .returned (.slice a' ks.length c') ∧ (∀ X : List Nat, (∀ x ∈ X, x < w'.heap.size) → KeepAt w'' X (.slice a' ks.length c') ks) ∧ Below w'.heap.size w' w'' ∧ TwinQ w w'' := by
  refine (clone_keep (hk.kept (w' := w') (X' := X) hq.1.size (fun b hb _ => hq.1.block b hb) (fun _ _ x => x))).mono ?_
  rintro e w'' ⟨v', rfl, h2, h3⟩
  obtain ⟨a', c', rfl, _⟩ := h2 [] (by simp)
  exact ⟨a', c', rfl, h2, h3, hq.step h3⟩

/-- The copies of the directories and of the row of changes. -/
structure TwinMid (Y : Lay) (D : Dk) (wl wm : World) (bA bB : Nat) (vC : Value) : Prop where
  below : Below wl.heap.size wl wm
  a : Dir wm bA 1000000 D.now
  b : Dir wm bB 1000000 D.safe
  c : wm.ownsRow wl.heap.size 83 1 vC D.chs.length Y.cv
  ha : wl.heap.size ≤ bA
  hb : wl.heap.size ≤ bB
  hab : bA ≠ bB
  hac : bA ∉ ob vC
  hbc : bB ∉ ob vC

theorem TwinMid.make {Y : Lay} {D : Dk} {wl wA wB wC wm : World} {bA bB sC : Nat} {vC : Value} (hm : Below wl.heap.size wl wm) (oA : Dir wA bA 1000000 D.now) (oB : Dir wB bB 1000000 D.safe) (oC : wC.ownsRow sC 83 1 vC D.chs.length Y.cv)
    (kA : Below wA.heap.size wA wm) (kB : Below wB.heap.size wB wm) (kC : Below wC.heap.size wC wm) (sA : wl.heap.size ≤ bA) (sB : wl.heap.size ≤ bB) (s3 : wl.heap.size ≤ sC)
    (dAB : wA.heap.size ≤ bB ∨ wB.heap.size ≤ bA) (dAC : wA.heap.size ≤ sC ∨ wC.heap.size ≤ bA) (dBC : wB.heap.size ≤ sC ∨ wC.heap.size ≤ bB) : TwinMid Y D wl wm bA bB vC := by
  have lA := oA.lt
  have lB := oB.lt
  have gC := row_ge oC
  have lC := row_lt oC
  refine ⟨hm, ownsMap_block oA (kA.block _ lA), ownsMap_block oB (kB.block _ lB), row_mono (row_kept oC (fun b _ hlt => kC.block b hlt)) s3, sA, sB, by omega, fun h => ?_, fun h => ?_⟩
  · have := gC _ h; have := lC _ h; omega
  · have := gC _ h; have := lC _ h; omega

theorem cv_one {w : World} {B : Nat} {Y : Lay} {D : Dk} (h : DiskAt B w Y D) : ∀ u ∈ Y.cv, u.oneCell' = true := by
  intro u hu
  obtain ⟨i, hi, rfl⟩ := List.getElem_of_mem hu
  have h1 : Y.cv[i]? = some Y.cv[i] := List.getElem?_eq_getElem hi
  obtain ⟨c, hc⟩ : ∃ c, D.chs[i]? = some c := ⟨_, List.getElem?_eq_getElem (by have := h.chs.1; omega)⟩
  have hcl := h.clos i _ c h1 hc
  cases c with
  | put k n => obtain ⟨q1, q2, e, _⟩ := hcl; rw [e]; rfl
  | ren k n => obtain ⟨q1, q2, e, _⟩ := hcl; rw [e]; rfl
  | del k => obtain ⟨q1, e, _⟩ := hcl; rw [e]; rfl

/-- The twin is whole. -/
theorem twin_end {B : Nat} {w wl wm wf : World} {Y : Lay} {D : Dk} {vt vC : Value} {fsT : List (Nat × Value)} {bA bB : Nat} {v9 v11 : Value} (H : DiskAt B w Y D) (hT : TwinAt w Y D D.files.length vt fsT wl) (hM : TwinMid Y D wl wm bA bB vC)
    (hsz : wm.heap.size ≤ wf.heap.size) (hsame : ∀ b, b < wm.heap.size → b ≠ w.heap.size → wf.heap[b]? = wm.heap[b]?)
    (hdisk : wf.heap[w.heap.size]? = some (.cells (cellsOf { Y with vf := vt, bn := bA, bs := bB, vc := vC, kn := v9, kc := v11 } D) 63))
    (h9 : ∀ X : List Nat, w.heap.size ∈ X → (∀ x ∈ X, x < wm.heap.size) → KeepAt wf X v9 D.next.2) (h11 : ∀ X : List Nat, w.heap.size ∈ X → (∀ x ∈ X, x < wm.heap.size) → KeepAt wf X v11 D.crash.2)
    (hw : Below w.heap.size w wf) : TwinPost D w (.returned (ptr w.heap.size)) wf := by
  have hgt := lt_of_heap hT.disk
  have hml := hM.below.size
  have hlw := hT.below.size
  let Y' : Lay := ⟨w.heap.size, bA, bB, vt, vC, fsT, Y.cv, v9, v11⟩
  have hbl : Y'.blocks = w.heap.size :: bA :: bB :: (ob vt ++ (ob vC ++ fsT.flatMap fb)) := rfl
  have gC := row_ge hM.c
  have lC := row_lt hM.c
  have lA := hM.a.lt
  have lB := hM.b.lt
  have hge : ∀ b ∈ Y'.blocks, w.heap.size ≤ b := by
    intro b hm
    rw [hbl] at hm
    simp only [List.mem_cons, List.mem_append] at hm
    have h1 := hM.ha; have h2 := hM.hb
    rcases hm with rfl | rfl | rfl | h | h | h
    · exact Nat.le_refl _
    · omega
    · omega
    · have := hT.ge b (List.mem_append_left _ h); omega
    · have := gC b h; omega
    · have := hT.ge b (List.mem_append_right _ h); omega
  have hlt : ∀ b ∈ Y'.blocks, b < wm.heap.size := by
    intro b hm
    rw [hbl] at hm
    simp only [List.mem_cons, List.mem_append] at hm
    rcases hm with rfl | rfl | rfl | h | h | h
    · omega
    · exact lA
    · exact lB
    · have := hT.lt b (List.mem_append_left _ h); omega
    · exact lC b h
    · have := hT.lt b (List.mem_append_right _ h); omega
  have sl : ∀ b, b < wl.heap.size → b ≠ w.heap.size → wf.heap[b]? = wl.heap[b]? := fun b hb hne => (hsame b (by omega) hne).trans (hM.below.block b hb)
  refine ⟨Y', rfl, ⟨hdisk, ?_, ?_, ?_, ?_, ?_, ?_, h9 _ (by rw [hbl]; simp) hlt, h11 _ (by rw [hbl]; simp) hlt, hT.len, ?_, hge⟩, hw⟩
  · have := hM.ha; exact ownsMap_block hM.a (hsame _ lA (show bA ≠ w.heap.size by omega))
  · have := hM.hb; exact ownsMap_block hM.b (hsame _ lB (show bB ≠ w.heap.size by omega))
  · exact row_mono (row_kept hT.files (fun b hb hlt => sl b hlt (by have := hT.ge b (List.mem_append_left _ hb); omega))) (by omega)
  · exact row_mono (row_kept hM.c (fun b hb hlt => hsame b hlt (by have := gC b hb; omega))) (by omega)
  · intro i p f h1 h2
    obtain ⟨k1, k2⟩ := hT.each i p f h1 h2
    have hm : ∀ b ∈ fb p, b ∈ fsT.flatMap fb := fun b hb => List.mem_flatMap.2 ⟨p, List.mem_of_getElem? h1, hb⟩
    have hs : ∀ b ∈ fb p, wf.heap[b]? = wl.heap[b]? := fun b hb => sl b (hT.lt b (List.mem_append_right _ (hm b hb))) (by have := hT.ge b (List.mem_append_right _ (hm b hb)); omega)
    exact ⟨(hs _ (by simp [fb])).trans k1, row_mono (row_kept k2 (fun b hb _ => hs b (by simp [fb, hb]))) (by omega)⟩
  · intro i v c h1 h2
    exact (H.clos i v c h1 h2).kept (fun b hb _ => hw.block b hb) (fun b hb hm => by have := hge b hm; omega)
  · have hn := hT.nodup
    rw [hbl]
    have hge1 : ∀ b ∈ ob vt ++ fsT.flatMap fb, w.heap.size + 1 ≤ b ∧ b < wl.heap.size := fun b hb => ⟨hT.ge b hb, hT.lt b hb⟩
    have hin : ∀ b ∈ ob vt ++ (ob vC ++ fsT.flatMap fb), (b ∈ ob vt ++ fsT.flatMap fb) ∨ b ∈ ob vC := by
      intro b hb
      simp only [List.mem_append] at hb ⊢
      rcases hb with h | h | h
      · exact .inl (.inl h)
      · exact .inr h
      · exact .inl (.inr h)
    have h1 := hM.ha; have h2 := hM.hb; have h3 := hM.hab; have h4 := hM.hac; have h5 := hM.hbc
    refine List.nodup_cons.2 ⟨fun hm => ?_, List.nodup_cons.2 ⟨fun hm => ?_, List.nodup_cons.2 ⟨fun hm => ?_, ?_⟩⟩⟩
    · rcases List.mem_cons.1 hm with e | hm
      · omega
      · rcases List.mem_cons.1 hm with e | hm
        · omega
        · rcases hin _ hm with k | k
          · have := (hge1 _ k).1; omega
          · have := gC _ k; omega
    · rcases List.mem_cons.1 hm with e | hm
      · exact h3 e
      · rcases hin _ hm with k | k
        · have := (hge1 _ k).2; omega
        · exact h4 k
    · rcases hin _ hm with k | k
      · have := (hge1 _ k).2; omega
      · exact h5 k
    · rw [List.nodup_append] at hn ⊢
      obtain ⟨p1, p2, p3⟩ := hn
      refine ⟨p1, ?_, ?_⟩
      · rw [List.nodup_append]
        refine ⟨ob_nodup vC, p2, fun x hx y hy e => ?_⟩
        subst e
        have := gC _ hx
        have := (hge1 _ (List.mem_append_right _ hy)).2
        omega
      · intro x hx y hy e
        subst e
        rcases List.mem_append.1 hy with k | k
        · have := gC _ k
          have := (hge1 _ (List.mem_append_left _ hx)).2
          omega
        · exact p3 x hx x k rfl
end Go.Proofs.Ytcfdfpjemonhoaa.Dk
