/-
  The contracts of the disk's New, Down, Calls, Free, Size.
-/
import Derived.Test.YthfnhhfobaocoaaGreatDoorDkAppend
namespace Go.Proofs.YthfnhhfobaocoaaGreatDoor.Dk
open Go.RowKit Go.Maps Go.WideMaps

def newDk (quota : Int) : Dk := ⟨quota, 0, [], [], [], [], 0, 0, (0, []), (0, []), false⟩

theorem down_any (B : Nat) (w : World) (Y : Lay) (D : Dk) (h : DiskAt B w Y D) :
    Calls Tryz.prog 115 #[ptr Y.g] w fun e w' => e = .returned (.bool D.down) ∧ w' = w := by
  have c12 : w.cell? ⟨Y.g, 12, none⟩ = some (.bool D.down) := h.cell 12
  clear h
  go_enter Tryz.func115, Tryz.ntmps115
  go_wp2
  go_ret
  exact ⟨rfl, rfl⟩

set_option maxHeartbeats 2000000 in
set_option maxRecDepth 100000 in
theorem size_any (B : Nat) (w : World) (Y : Lay) (D : Dk) (S : ByteArray) (hS : S.size ≤ maxLen) (h : DiskAt B w Y D) (ok : Ok D) :
    Calls Tryz.prog 88 #[ptr Y.g, .string S] w (OpPost B Y w (.tuple #[.int .i64 (size D S.data.toList).1.1, .int .i64 (size D S.data.toList).1.2]) (size D S.data.toList).2) := by
  have O := Lib.hid (open_any B w Y D S hS h ok)
  have hlen := ok.lens
  rcases openF_cases D S.data.toList ok.now with ⟨er, D', e1, hne, hfs⟩ | ⟨n, D', e1, hn, hfs⟩
  · have e2 : size D S.data.toList = ((0, er), D') := by unfold size; rw [e1]
    rw [e2]
    rw [e1] at O
    have hri : (er == 0) = false := by simpa using hne
    clear e1 e2 hne hlen ok h
    go_enter Tryz.func88, Tryz.ntmps88
    go_wp2_with fail
    refine O.out.mono ?_
    rintro e w1 ⟨kc', rfl, h1, ht⟩
    have H1 := Lib.hid h1; have HT := Lib.hid ht
    clear h1 ht O
    go_wp2
    go_ret2
    exact opPost_same _ H1.out HT.out (by simp [mem_g]) rfl rfl
  · obtain ⟨f, hf⟩ : ∃ f, D'.files[n]? = some f := ⟨_, List.getElem?_eq_getElem hn⟩
    have hgd : D'.files.getD n ⟨[], 0⟩ = f := by rw [List.getD, hf]; rfl
    have e2 : size D S.data.toList = (((f.data.length : Int), 0), D') := by unfold size; rw [e1]; dsimp only; rw [hgd]
    rw [e2]
    rw [e1] at O
    clear e1 e2 hgd hlen ok h hfs
    go_enter Tryz.func88, Tryz.ntmps88
    go_wp2_with fail
    refine O.out.mono ?_
    rintro e w1 ⟨kc', rfl, h1, ht⟩
    obtain ⟨p, hp⟩ : ∃ p, Y.fs[n]? = some p := ⟨_, List.getElem?_eq_getElem (by have := h1.lenF; dsimp only at this; omega)⟩
    have hgp : Y.fs.getD n (0, .nilIface) = p := by rw [List.getD, hp]; rfl
    dsimp only
    rw [hgp]
    obtain ⟨k1, k2⟩ := h1.each n p f hp hf
    obtain ⟨a, cp, hv⟩ := row_slice k2
    have c0 : w1.cell? ⟨p.1, 0, none⟩ = some p.2 := cell_of_heap k1
    rw [hv] at c0
    have H1 := Lib.hid h1; have HT := Lib.hid ht
    clear h1 ht O hgp k1 k2 hv hp hf
    go_wp2
    go_ret2
    exact opPost_same _ H1.out HT.out (by simp [mem_g]) rfl rfl

theorem keep_nil (w : World) (X : List Nat) : KeepAt w X (.slice none 0 0) [] := ⟨none, 0, rfl, by simp, fun h => absurd rfl h⟩

theorem new_at (w : World) (q : Int) : DiskAt w.heap.size (((w.alloc (.map #[] 0)).alloc (.map #[] 0)).alloc (.cells (cellsOf ⟨w.heap.size + 2, w.heap.size, w.heap.size + 1, .slice none 0 0, .slice none 0 0, [], [], .slice none 0 0, .slice none 0 0⟩ (newDk q)) 76))
    ⟨w.heap.size + 2, w.heap.size, w.heap.size + 1, .slice none 0 0, .slice none 0 0, [], [], .slice none 0 0, .slice none 0 0⟩ (newDk q) := by
  have s1 : (w.alloc (.map #[] 0)).heap.size = w.heap.size + 1 := by show (w.heap.push _).size = _; simp
  have s2 : ((w.alloc (.map #[] 0)).alloc (.map #[] 0)).heap.size = w.heap.size + 2 := by show ((w.alloc (.map #[] 0)).heap.push _).size = _; rw [Array.size_push, s1]
  have m1 := World.ownsMap_made (H := Unit) w Tryz.prog 9 (plainElem Tryz.prog 3)
  have m2 := World.ownsMap_made (H := Unit) (w.alloc (.map #[] 0)) Tryz.prog 9 (plainElem Tryz.prog 3)
  rw [s1] at m2
  refine ⟨?_, ?_, ?_, ⟨rfl, .inl ⟨rfl, rfl⟩⟩, ⟨rfl, .inl ⟨rfl, rfl⟩⟩, ?_, ?_, keep_nil _ _, keep_nil _ _, rfl, ?_, ?_⟩
  · have h := (MapKept.heap_alloc ((w.alloc (.map #[] 0)).alloc (.map #[] 0)) (.cells (cellsOf ⟨w.heap.size + 2, w.heap.size, w.heap.size + 1, .slice none 0 0, .slice none 0 0, [], [], .slice none 0 0, .slice none 0 0⟩ (newDk q)) 76)).1
    rw [s2] at h
    exact h
  · exact ((m1.alloc _).alloc _).mono (by omega)
  · exact (m2.alloc _).mono (by omega)
  · intro i p f h; simp at h
  · intro i p f h; simp at h
  · simp [Lay.blocks, Lay.rest, ob, Value.ownBlock]
  · intro b hb
    simp [Lay.blocks, Lay.rest, ob, Value.ownBlock] at hb
    omega

def NewPost (q : Int) (w : World) (e : Ending) (w' : World) : Prop := ∃ Y : Lay, e = .returned (.tuple #[ptr Y.g, .int .i64 0]) ∧ DiskAt w.heap.size w' Y (newDk q) ∧ Below w.heap.size w w'

set_option maxHeartbeats 2000000 in
set_option maxRecDepth 100000 in
theorem new_any (q : Int) (h0 : 0 ≤ q) (h1 : q ≤ 1099511627776) (w : World) :
    Calls Tryz.prog 8 #[.int .i64 q] w (NewPost q w) := by
  have hmm := @run_makeMap Tryz.prog
  go_enter Tryz.func8, Tryz.ntmps8
  go_wp2
  go_ret2
  exact ⟨_, rfl, new_at w q, (((Below.refl _ _).alloc (Nat.le_refl _) _).alloc (by show _ ≤ (w.heap.push _).size; simp) _).alloc (by show _ ≤ ((w.heap.push _).push _).size; simp; omega) _⟩
end Go.Proofs.YthfnhhfobaocoaaGreatDoor.Dk
