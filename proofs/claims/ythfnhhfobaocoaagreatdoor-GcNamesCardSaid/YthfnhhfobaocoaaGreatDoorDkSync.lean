/-
  The contracts of the disk's Sync and Size.
-/
import Derived.Test.YthfnhhfobaocoaaGreatDoorDkOpen
namespace Go.Proofs.YthfnhhfobaocoaaGreatDoor.Dk
open Go.RowKit Go.Maps Go.WideMaps

/-- What a call of a disk leaves. -/
def OpPost (B : Nat) (Y : Lay) (w : World) (v : Value) (D' : Dk) (e : Ending) (w' : World) : Prop :=
  ∃ Y' : Lay, e = .returned v ∧ DiskAt B w' Y' D' ∧ Turn Y.blocks w w' ∧ (∀ b ∈ Y'.blocks, b ∈ Y.blocks ∨ w.heap.size ≤ b) ∧ Y'.g = Y.g

theorem openF_cases (D : Dk) (k : List UInt8) (ok : fits D.files.length D.now) : (∃ e D', openF D k = ((none, e), D') ∧ e ≠ 0 ∧ D'.files = D.files) ∨ ∃ n D', openF D k = ((some n, 0), D') ∧ n < D'.files.length ∧ D'.files = D.files := by
  obtain ⟨q1, q2, _⟩ := count_now D
  have e0 : openF D k = (let (e, D) := count D; if e ≠ 0 then ((none, e), D) else match getM D.now k with | none => ((none, 6), D) | some n => ((some n, 0), D)) := rfl
  obtain ⟨⟨r, D'⟩, hcd⟩ : ∃ x, x = count D := ⟨_, rfl⟩
  rw [← hcd] at q1 q2 e0
  dsimp only at q1 q2 e0
  by_cases hr : r = 0
  · rw [if_neg (by simpa using hr)] at e0
    cases hg : getM D'.now k with
    | none => rw [hg] at e0; exact .inl ⟨6, D', e0, by decide, q2⟩
    | some n =>
      rw [hg] at e0
      exact .inr ⟨n, D', e0, by rw [q2]; exact fits_get ok (by rw [← q1]; exact hg), q2⟩
  · rw [if_pos hr] at e0
    exact .inl ⟨r, D', e0, hr, q2⟩

theorem opPost_same {B : Nat} {Y Y' : Lay} {w w' : World} {D' : Dk} {X : List Nat} (v : Value) (h : DiskAt B w' Y' D') (ht : Turn X w w') (hX : ∀ x ∈ X, x ∈ Y.blocks) (hY : Y'.blocks = Y.blocks) (hg : Y'.g = Y.g) : OpPost B Y w v D' (.returned v) w' :=
  ⟨Y', rfl, h, ht.mono hX, fun b hb => .inl (by rw [← hY]; exact hb), hg⟩

theorem row_slice {w : World} {B : Nat} {e : TypeId} {size : Nat} {v : Value} {n : Nat} {xs : List Value} (h : w.ownsRow B e size v n xs) : ∃ a c, v = .slice a n c := by
  obtain ⟨h1, ⟨rfl, h2⟩ | ⟨g, cap, cur, rfl, _⟩⟩ := h
  · subst h2; exact ⟨none, 0, rfl⟩
  · exact ⟨_, _, rfl⟩

set_option maxHeartbeats 2000000 in
set_option maxRecDepth 100000 in
theorem sync_any (B : Nat) (w : World) (Y : Lay) (D : Dk) (S : ByteArray) (hS : S.size ≤ maxLen) (h : DiskAt B w Y D) (ok : Ok D) :
    Calls Tryz.prog 71 #[ptr Y.g, .string S] w (OpPost B Y w (.int .i64 (sync D S.data.toList).1) (sync D S.data.toList).2) := by
  have O := Lib.hid (open_any B w Y D S hS h ok)
  have hlen := ok.lens
  rcases openF_cases D S.data.toList ok.now with ⟨er, D', e1, hne, hfs⟩ | ⟨n, D', e1, hn, hfs⟩
  · have e2 : sync D S.data.toList = (er, D') := by unfold sync; rw [e1]
    rw [e2]
    rw [e1] at O
    have hri : (er == 0) = false := by simpa using hne
    clear e1 e2 hne hlen ok h
    go_enter Tryz.func71, Tryz.ntmps71
    go_wp2_with fail
    refine O.out.mono ?_
    rintro e w1 ⟨kc', rfl, h1, ht⟩
    have H1 := Lib.hid h1; have HT := Lib.hid ht
    clear h1 ht O
    go_wp2
    go_ret
    exact opPost_same _ H1.out HT.out (by simp [mem_g]) rfl rfl
  · obtain ⟨f, hf⟩ : ∃ f, D'.files[n]? = some f := ⟨_, List.getElem?_eq_getElem hn⟩
    have hgd : D'.files.getD n ⟨[], 0⟩ = f := by rw [List.getD, hf]; rfl
    have e2 : sync D S.data.toList = (0, putFile D' n { f with safe := f.data.length }) := by unfold sync; rw [e1]; dsimp only; rw [hgd]
    rw [e2]
    rw [e1] at O
    have hfl := (hlen f (by rw [← hfs]; exact List.mem_of_getElem? hf)).1
    clear e1 e2 hgd hlen ok h hfs
    go_enter Tryz.func71, Tryz.ntmps71
    go_wp2_with fail
    refine O.out.mono ?_
    rintro e w1 ⟨kc', rfl, h1, ht⟩
    obtain ⟨p, hp⟩ : ∃ p, Y.fs[n]? = some p := ⟨_, List.getElem?_eq_getElem (by have := h1.lenF; dsimp only at this; omega)⟩
    have hgp : Y.fs.getD n (0, .nilIface) = p := by rw [List.getD, hp]; rfl
    dsimp only
    rw [hgp]
    obtain ⟨k1, k2⟩ := h1.each n p f hp hf
    obtain ⟨a, cp, hv⟩ := row_slice k2
    have c0 : w1.cell? ⟨p.1, 0, none⟩ = some p.2 := cell_of_heap k1
    have c1 : w1.cell? ⟨p.1, 1, none⟩ = some (.int .i64 (f.safe : Int)) := cell_of_heap k1
    have f1 : w1.frozen? ⟨p.1, 1, none⟩ = false := frozen_of_heap k1
    rw [hv] at c0
    have H1 := Lib.hid h1; have HT := Lib.hid ht; have K1 := Lib.hid k1; have K2 := Lib.hid k2; have HP := Lib.hid hp; have HF := Lib.hid hf
    clear h1 ht O hgp k1 k2 hv hp hf
    go_wp2
    go_ret
    have hnew := H1.out.fileSet HP.out HF.out p.2 { f with safe := f.data.length } (w' := w1.setCell ⟨p.1, 1, none⟩ (.int .i64 (f.data.length : Int))) (by simp [World.setCell]) (fun b hb hnb => Below.heap_setCell _ _ _ _ (by intro e; subst e; exact hnb (by simp [fb])))
      (by rw [setCell_heap _ _ _ _ _ _ K1.out]; rfl)
      (row_kept K2.out (fun b hb _ => Below.heap_setCell _ _ _ _ (by
        intro e; subst e
        exact H1.out.fd_ne HP.out hb)))
      (fun b hb => .inl hb)
    refine ⟨_, rfl, hnew, ?_, ?_, rfl⟩
    · exact (HT.out.mono (by simp [mem_g])).setCell (.inl (in_blocks (mem_fs HP.out))) _
    · intro b hb
      rcases blocks_set (Y := { Y with kc := kc' }) HP.out p.2 b hb with k | k
      · exact .inl k
      · exact .inl (in_blocks (mem_fd HP.out k))
end Go.Proofs.YthfnhhfobaocoaaGreatDoor.Dk
