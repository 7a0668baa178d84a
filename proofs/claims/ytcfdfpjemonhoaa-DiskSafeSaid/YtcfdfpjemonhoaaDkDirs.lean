/-
  The contracts of the disk's SyncDir, Pull, Plan, List.
-/
import Derived.Test.YtcfdfpjemonhoaaDkCreate
namespace Go.Proofs.Ytcfdfpjemonhoaa.Dk
open Go.RowKit Go.Maps Go.WideMaps

/-- The two directories are other ones, and no change is kept. -/
theorem DiskAt.dirs {B : Nat} {w w' : World} {Y : Lay} {D : Dk} (h : DiskAt B w Y D) (b1 b2 : Nat) (m1 m2 : DM) (hsz : w.heap.size ≤ w'.heap.size)
    (hb : ∀ b, b < w.heap.size → b ≠ Y.g → w'.heap[b]? = w.heap[b]?)
    (hg : w'.heap[Y.g]? = some (.cells (cellsOf { Y with bn := b1, bs := b2, vc := .slice none 0 0 } D) 63))
    (h1 : b1 = Y.bn ∨ w.heap.size ≤ b1) (h2 : w.heap.size ≤ b2) (hne : b1 ≠ b2)
    (o1 : w'.ownsMap Try.prog 9 (plainElem Try.prog 3) b1 1000000 (toD m1)) (o2 : w'.ownsMap Try.prog 9 (plainElem Try.prog 3) b2 1000000 (toD m2)) :
    DiskAt B w' { Y with bn := b1, bs := b2, vc := .slice none 0 0, cv := [] } { D with now := m1, safe := m2, chs := [] } := by
  have hlt := h.lt
  have hnd := h.nodup
  simp only [Lay.blocks, Lay.rest, List.nodup_cons] at hnd
  obtain ⟨n1, n2, n3, n4⟩ := hnd
  have hgl : Y.g < w.heap.size := hlt _ (mem_g Y)
  have hrest : ∀ b, b ∈ ob Y.vf ∨ b ∈ Y.fs.flatMap fb → b ∈ Y.blocks := by
    intro b hm
    simp only [Lay.blocks, Lay.rest, List.mem_cons, List.mem_append]
    exact .inr (.inr (.inr (hm.imp id .inr)))
  have hbl' : ({ Y with bn := b1, bs := b2, vc := .slice none 0 0, cv := [] } : Lay).blocks = Y.g :: b1 :: b2 :: (ob Y.vf ++ Y.fs.flatMap fb) := by
    simp [Lay.blocks, Lay.rest, ob, Value.ownBlock]
  have hX : ∀ b, b < w.heap.size → b ∈ ({ Y with bn := b1, bs := b2, vc := .slice none 0 0, cv := [] } : Lay).blocks → b ∈ Y.blocks := by
    intro b hlt' hm
    rw [hbl'] at hm
    simp only [List.mem_cons, List.mem_append] at hm
    rcases hm with rfl | rfl | rfl | hm
    · exact mem_g Y
    · rcases h1 with rfl | h1
      · exact in_blocks (mem_bn Y)
      · omega
    · omega
    · exact hrest b hm
  have hx : ∀ b, b < w.heap.size → b ∉ Y.blocks → w'.heap[b]? = w.heap[b]? := fun b hlt' hnb => hb b hlt' (fun e => hnb (by rw [e]; exact mem_g Y))
  refine ⟨hg, o1, o2, row_kept h.files (fun b hm hlt' => hb b hlt' (h.ne_g (mem_vf hm))), ⟨rfl, .inl ⟨rfl, rfl⟩⟩, ?_, ?_, h.kn.kept hsz hx hX, h.kc.kept hsz hx hX, h.lenF, ?_, ?_⟩
  · intro i p f k1 k2
    obtain ⟨e1, e2⟩ := h.each i p f k1 k2
    exact ⟨(hb _ (lt_of_heap e1) (h.ne_g (mem_fs k1))).trans e1, row_kept e2 (fun b hm hlt' => hb b hlt' (h.ne_g (mem_fd k1 hm)))⟩
  · intro i v c k1 k2; simp at k1
  · rw [hbl']
    have r1 : ∀ b ∈ ob Y.vf ++ Y.fs.flatMap fb, b ∈ ob Y.vf ++ (ob Y.vc ++ Y.fs.flatMap fb) := by
      intro b hm
      simp only [List.mem_append] at hm ⊢
      exact hm.imp id .inr
    have r2 : (ob Y.vf ++ Y.fs.flatMap fb).Nodup := by
      rw [List.nodup_append] at n4 ⊢
      obtain ⟨p1, p2, p3⟩ := n4
      rw [List.nodup_append] at p2
      exact ⟨p1, p2.2.1, fun x hx y hy => p3 x hx y (List.mem_append_right _ hy)⟩
    have r3 : ∀ b ∈ ob Y.vf ++ Y.fs.flatMap fb, b < w.heap.size := fun b hm => hlt b (hrest b (List.mem_append.1 hm))
    refine List.nodup_cons.2 ⟨?_, List.nodup_cons.2 ⟨?_, List.nodup_cons.2 ⟨fun hm => by have := r3 _ hm; omega, r2⟩⟩⟩
    · intro hm
      simp only [List.mem_cons] at hm
      rcases hm with e | e | hm
      · rcases h1 with k | k
        · exact n1 (by rw [e, k]; simp)
        · omega
      · omega
      · exact n1 (List.mem_cons_of_mem _ (List.mem_cons_of_mem _ (r1 _ hm)))
    · intro hm
      rcases List.mem_cons.1 hm with e | hm
      · exact hne e
      · rcases h1 with rfl | k
        · exact n2 (List.mem_cons_of_mem _ (r1 _ hm))
        · have := r3 _ hm; omega
  · intro b hm
    by_cases hlt' : b < w.heap.size
    · exact h.base b (hX b hlt' hm)
    · have := h.base Y.g (mem_g Y)
      omega

theorem blocks_dirs {Y : Lay} {N : Nat} (b1 b2 : Nat) (h1 : b1 = Y.bn ∨ N ≤ b1) (h2 : N ≤ b2) : ∀ b ∈ ({ Y with bn := b1, bs := b2, vc := .slice none 0 0, cv := [] } : Lay).blocks, b ∈ Y.blocks ∨ N ≤ b := by
  intro b hm
  simp only [Lay.blocks, Lay.rest, ob, Value.ownBlock, List.mem_cons, List.mem_append] at hm ⊢
  rcases hm with h | h | h | h | h | h
  · exact .inl (.inl h)
  · rcases h1 with k | k
    · exact .inl (.inr (.inl (by rw [h, k])))
    · exact .inr (by omega)
  · exact .inr (by omega)
  · exact .inl (.inr (.inr (.inr (.inl h))))
  · simp at h
  · exact .inl (.inr (.inr (.inr (.inr (.inr h)))))

set_option maxHeartbeats 2000000 in
set_option maxRecDepth 100000 in
theorem syncDir_any (B : Nat) (w : World) (Y : Lay) (D : Dk) (h : DiskAt B w Y D) (ok : Ok D) :
    Calls Try.prog 18 #[ptr Y.g] w (OpPost B Y w (.int .i64 (syncDir D).1) (syncDir D).2) := by
  have C := Lib.hid (count_any B _ Y D h ok.calls ok.left)
  obtain ⟨R, hR⟩ : ∃ R, R = syncDir D := ⟨_, rfl⟩
  have e0 : R = (let (e, D) := count D; if e ≠ 0 then (e, D) else (0, { D with safe := D.now, chs := [] })) := hR
  rw [← hR]
  obtain ⟨⟨r, D'⟩, hcd⟩ : ∃ x, x = count D := ⟨_, rfl⟩
  rw [← hcd] at e0 C
  dsimp only at e0
  have E0 := Lib.hid e0
  clear e0 hcd hR h ok
  unfold ptr
  go_enter Try.func18, Try.ntmps18
  go_wp2_with fail
  refine C.out.mono ?_
  rintro e w1 ⟨kc', rfl, h1, ht⟩
  dsimp only at h1
  have H1 := Lib.hid h1; have HT := Lib.hid ht
  by_cases hr : r = 0
  · subst hr
    have c3 : w1.cell? ⟨Y.g, 3, none⟩ = some (.map (some Y.bn)) := h1.cell 3
    have hgl : Y.g < w1.heap.size := lt_of_heap h1.disk
    have ER : Hid (R = (0, { D' with safe := D'.now, chs := [] })) := Lib.hid (by rw [E0.out, if_neg (by simp)])
    have MC := Lib.hid (Try.mapClone 9 (plainElem Try.prog 3) Y.bn 1000000 _ w1 h1.now)
    clear h1 ht C E0
    go_wp2_with (go_at_call 38; refine MC.out.mono ?_; rintro e w2 ⟨rfl, o2, o1, hb⟩; have g2 : w2.heap[Y.g]? = some (.cells (cellsOf { Y with kc := kc' } D') 63) := (hb.block _ hgl).trans H1.out.disk; have d4 : w2.cell? ⟨Y.g, 4, none⟩ = some (.map (some Y.bs)) := cell_of_heap g2; have f4 : w2.frozen? ⟨Y.g, 4, none⟩ = false := frozen_of_heap g2; have d5 : w2.cell? ⟨Y.g, 5, none⟩ = some Y.vc := cell_of_heap g2; have f5 : w2.frozen? ⟨Y.g, 5, none⟩ = false := frozen_of_heap g2; have G2 := Lib.hid g2; have O1 := Lib.hid o1; have O2 := Lib.hid o2; have HB := Lib.hid hb; clear g2 o1 o2 hb)
    go_ret
    rw [ER.out]
    have hbn : Y.bn < w1.heap.size := H1.out.now.lt
    have hbg : Y.bn ≠ Y.g := H1.out.ne_g (Y := { Y with kc := kc' }) (mem_bn _)
    have hne2 : ∀ b, b ≠ Y.g → ((w2.setCell ⟨Y.g, 4, none⟩ (.map (some w1.heap.size))).setCell ⟨Y.g, 5, none⟩ (.slice none 0 0)).heap[b]? = w2.heap[b]? := fun b hne => (Below.heap_setCell _ _ _ _ hne).trans (Below.heap_setCell _ _ _ _ hne)
    have hnew := H1.out.dirs (w' := (w2.setCell ⟨Y.g, 4, none⟩ (.map (some w1.heap.size))).setCell ⟨Y.g, 5, none⟩ (.slice none 0 0)) Y.bn w1.heap.size D'.now D'.now (by have := HB.out.size; simp [World.setCell]; exact this)
      (fun b hb hne => (hne2 b hne).trans (HB.out.block b hb))
      (by rw [setCell_heap _ _ _ _ _ _ (setCell_heap _ _ _ _ _ _ G2.out)]; simp [cellsOf])
      (.inl rfl) (Nat.le_refl _) (by omega)
      (ownsMap_block O1.out (hne2 _ hbg)) (ownsMap_block O2.out (hne2 _ (by omega)))
    refine ⟨_, rfl, hnew, ?_, ?_, rfl⟩
    · exact (((HT.out.mono (by simp [mem_g])).trans (Turn.of_below (X := []) HB.out) (by simp)).setCell (.inl (mem_g Y)) _).setCell (.inl (mem_g Y)) _
    · exact blocks_dirs (Y := { Y with kc := kc' }) Y.bn w1.heap.size (.inl rfl) HT.out.size
  · have hri : (r == 0) = false := by simpa using hr
    have ER : Hid (R = (r, D')) := Lib.hid (by rw [E0.out, if_pos hr])
    clear h1 ht C hr
    go_wp2
    go_ret
    rw [ER.out]
    exact opPost_same (Y := Y) _ H1.out HT.out (by simp [mem_g]) rfl rfl

/-- A copy of the row that says what a crash keeps. -/
def KeepPost (w : World) (ks : List Int) (e : Ending) (w' : World) : Prop := ∃ v', e = .returned v' ∧ (∀ X : List Nat, (∀ x ∈ X, x < w.heap.size) → KeepAt w' X v' ks) ∧ Below w.heap.size w w'

theorem keep_of_row {w w' : World} {v' : Value} {ks : List Int} (hl : ks.length ≤ 17592186044416) (h : w'.ownsRow w.heap.size 3 1 v' ks.length (ks.map (Value.int .i64))) : ∀ X : List Nat, (∀ x ∈ X, x < w.heap.size) → KeepAt w' X v' ks := by
  intro X hX
  obtain ⟨h1, ⟨rfl, h2⟩ | ⟨g, cap, cur, rfl, hg, hh, hn, hc, hs, ht⟩⟩ := h
  · refine ⟨none, 0, by rw [h2], hl, fun hne => ?_⟩
    simp at h2; exact absurd h2 hne
  · refine ⟨_, cap, rfl, hl, fun _ => ⟨g, 0, rfl, lt_of_heap hh, fun hm => by have := hX _ hm; omega, fun j x hj => ?_⟩⟩
    rw [cell_of_heap hh, Nat.zero_add]
    have hjl : j < ks.length := (List.getElem?_eq_some_iff.1 hj).1
    have := congrArg (fun l => l[j]?) ht
    simp only [Nat.mul_one] at this
    rw [List.getElem?_take_of_lt hjl, Array.getElem?_toList, List.getElem?_map, hj] at this
    exact this

theorem clone_keep {w : World} {X : List Nat} {v : Value} {ks : List Int} (h : KeepAt w X v ks) : Calls Try.prog 39 #[v] w (KeepPost w ks) := by
  obtain ⟨a, cap, rfl, hl, hc⟩ := h
  by_cases hne : ks = []
  · subst hne
    cases a with
    | none =>
      refine (Try.cloneInt_nil 0 cap w).mono ?_
      rintro e w' ⟨rfl, rfl⟩
      exact ⟨_, rfl, fun X _ => keep_nil _ _, Below.refl _ _⟩
    | some a =>
      refine (Try.cloneInt_zero a cap w).mono ?_
      rintro e w' ⟨v', rfl, ho, _, hb⟩
      exact ⟨_, rfl, keep_of_row (by simp) ho, hb⟩
  · obtain ⟨b, o, rfl, hlt, hx, hcell⟩ := hc hne
    refine (Try.cloneInt b o ks.length cap ks w (Nat.le_refl _) (by omega) ?_).mono ?_
    · intro j hj
      have hg : ks[j]? = some (ks.getD j 0) := by rw [List.getD, List.getElem?_eq_getElem hj]; rfl
      exact hcell j _ hg
    · rintro e w' ⟨v', rfl, ho, _, hb⟩
      rw [List.take_length] at ho
      exact ⟨_, rfl, keep_of_row hl ho, hb⟩
end Go.Proofs.Ytcfdfpjemonhoaa.Dk
