/-
  A new file in the disk's row of files.
-/
import Derived.Test.YtcfdfpjemonhoaaDkLabel
namespace Go.Proofs.Ytcfdfpjemonhoaa.Dk
open Go.RowKit Go.Maps Go.WideMaps

theorem back_string (S : ByteArray) : (⟨S.data.toList.toArray⟩ : ByteArray) = S := by cases S; simp

/-- A file more. -/
theorem DiskAt.filesAdd {B : Nat} {w w' : World} {Y : Lay} {D : Dk} (h : DiskAt B w Y D) (v' : Value) (q : Nat) (hsz : w.heap.size ≤ w'.heap.size)
    (hb : ∀ b, b < w.heap.size → b ∉ ob Y.vf → b ≠ Y.g → w'.heap[b]? = w.heap[b]?) (hg : w'.heap[Y.g]? = some (.cells (cellsOf { Y with vf := v' } D) 63))
    (hr : w'.ownsRow B 68 1 v' (D.files.length + 1) ((Y.fs.map fun p => ptr p.1) ++ [ptr q])) (hv : ∀ b ∈ ob v', b ∈ ob Y.vf ∨ w.heap.size ≤ b)
    (hq : w.heap.size ≤ q) (hqv : q ∉ ob v') (hc : w'.heap[q]? = some (.cells #[.slice none 0 0, .int .i64 0] 71)) :
    DiskAt B w' { Y with vf := v', fs := Y.fs ++ [(q, .slice none 0 0)] } { D with files := D.files ++ [⟨[], 0⟩] } := by
  let L1 : List Nat := [Y.g, Y.bn, Y.bs]
  let L2 : List Nat := ob Y.vc ++ Y.fs.flatMap fb
  have hbl : Y.blocks = L1 ++ (ob Y.vf ++ L2) := by simp only [Lay.blocks, Lay.rest, L1, L2, List.cons_append, List.nil_append]
  have hbl' : ({ Y with vf := v', fs := Y.fs ++ [(q, .slice none 0 0)] } : Lay).blocks = (L1 ++ (ob v' ++ L2)) ++ [q] := by
    simp [Lay.blocks, Lay.rest, L1, L2, fb, ob, Value.ownBlock]
  have hnd := h.nodup
  rw [hbl] at hnd
  have hlt := h.lt
  have h1lt : ∀ x ∈ L1, x < w.heap.size := fun x hx => hlt x (by rw [hbl]; exact List.mem_append_left _ hx)
  have h2lt : ∀ x ∈ L2, x < w.heap.size := fun x hx => hlt x (by rw [hbl]; exact List.mem_append_right _ (List.mem_append_right _ hx))
  have same : ∀ x, (x ∈ L1 ∨ x ∈ L2) → x ≠ Y.g → w'.heap[x]? = w.heap[x]? := fun x hx hne => hb x (hx.elim (h1lt x) (h2lt x)) (nodup_apart hnd hx) hne
  have hX : ∀ b, b < w.heap.size → b ∈ ({ Y with vf := v', fs := Y.fs ++ [(q, .slice none 0 0)] } : Lay).blocks → b ∈ Y.blocks := by
    intro b hlt hm
    rw [hbl'] at hm
    rw [hbl]
    rcases List.mem_append.1 hm with k | k
    · rcases List.mem_append.1 k with k | k
      · exact List.mem_append_left _ k
      · rcases List.mem_append.1 k with k | k
        · rcases hv b k with k | k
          · exact List.mem_append_right _ (List.mem_append_left _ k)
          · omega
        · exact List.mem_append_right _ (List.mem_append_right _ k)
    · simp at k; omega
  have hx : ∀ b, b < w.heap.size → b ∉ Y.blocks → w'.heap[b]? = w.heap[b]? := fun b hlt hnb => hb b hlt (fun hm => hnb (in_blocks (mem_vf hm))) (fun e => hnb (by rw [e]; exact mem_g Y))
  have hfl : ∀ b ∈ Y.fs.flatMap fb, b ∈ L2 := fun b hm => List.mem_append_right _ hm
  refine ⟨hg, ownsMap_block h.now (same _ (.inl (by simp [L1])) (h.ne_g (mem_bn Y))), ownsMap_block h.safe (same _ (.inl (by simp [L1])) (h.ne_g (mem_bs Y))), ?_, row_kept h.chs (fun b hm _ => same b (.inr (List.mem_append_left _ hm)) (h.ne_g (mem_vc hm))), ?_, ?_, h.kn.kept hsz hx hX, h.kc.kept hsz hx hX, ?_, ?_, ?_⟩
  · have e1 : (Y.fs ++ [(q, Value.slice none 0 0)]).map (fun p => ptr p.1) = (Y.fs.map fun p => ptr p.1) ++ [ptr q] := by simp
    show w'.ownsRow B _ 1 v' (D.files ++ [(⟨[], 0⟩ : Fl)]).length ((Y.fs ++ [(q, Value.slice none 0 0)]).map fun p => ptr p.1)
    rw [e1, List.length_append]; exact hr
  · intro i p f h1 h2
    by_cases hi : i < D.files.length
    · have h1' : Y.fs[i]? = some p := by rw [← h1]; exact (List.getElem?_append_left (by rw [h.lenF]; exact hi)).symm
      have h2' : D.files[i]? = some f := by rw [← h2]; exact (List.getElem?_append_left hi).symm
      obtain ⟨k1, k2⟩ := h.each i p f h1' h2'
      have hm : ∀ b ∈ fb p, b ∈ Y.fs.flatMap fb := fun b hb => List.mem_flatMap.2 ⟨p, List.mem_of_getElem? h1', hb⟩
      exact ⟨(same _ (.inr (hfl _ (hm _ (by simp [fb])))) (h.ne_g (mem_fs h1'))).trans k1, row_kept k2 (fun b hb' _ => same b (.inr (hfl _ (hm b (by simp [fb, hb'])))) (h.ne_g (mem_fd h1' hb')))⟩
    · have hl := h.lenF
      have h1' : [(q, Value.slice none 0 0)][i - Y.fs.length]? = some p := by rw [← h1]; exact (List.getElem?_append_right (by omega)).symm
      have h2' : [(⟨[], 0⟩ : Fl)][i - D.files.length]? = some f := by rw [← h2]; exact (List.getElem?_append_right (by omega)).symm
      rw [List.getElem?_singleton] at h1' h2'
      split at h1'
      · split at h2'
        · obtain rfl := Option.some.inj h1'
          obtain rfl := Option.some.inj h2'
          exact ⟨hc, rfl, .inl ⟨rfl, rfl⟩⟩
        · simp at h2'
      · simp at h1'
  · intro i v c h1 h2
    exact (h.clos i v c h1 h2).kept hx hX
  · simp [h.lenF]
  · rw [hbl', List.nodup_append]
    refine ⟨nodup_swap hnd (ob_nodup v') hv h1lt h2lt, by simp, ?_⟩
    intro x hx y hy e
    simp at hy
    subst hy; subst e
    rcases List.mem_append.1 hx with k | k
    · have := h1lt _ k; omega
    · rcases List.mem_append.1 k with k | k
      · exact hqv k
      · have := h2lt _ k; omega
  · intro b hm
    by_cases hlt' : b < w.heap.size
    · exact h.base b (hX b hlt' hm)
    · have := h.base Y.g (mem_g Y)
      have := h1lt Y.g (by simp [L1])
      omega

theorem usedOf_more (fs : List Fl) (f : Fl) (m : DM) (hf : fits fs.length m) : usedOf (fs ++ [f]) m = usedOf fs m := by
  unfold usedOf
  congr 1
  refine List.map_congr_left fun p hp => ?_
  have := hf p hp
  unfold fileLen
  rw [List.getElem?_append_left this]
theorem fits_more {n m : Nat} {d : DM} (h : fits n d) (hm : n ≤ m) : fits m d := fun p hp => Nat.lt_of_lt_of_le (h p hp) hm
theorem Ch.fits_more {n m : Nat} {c : Ch} (h : c.fits n) (hm : n ≤ m) : c.fits m := by
  cases c with
  | put k i => exact Nat.lt_of_lt_of_le h hm
  | ren a b => exact Nat.lt_of_lt_of_le h hm
  | del k => exact h

/-- The disk with a file more. -/
def moreF (D : Dk) : Dk := { D with files := D.files ++ [⟨[], 0⟩] }
theorem ok_moreF {D : Dk} (ok : Ok D) (h : D.files.length < 1000000) : Ok (moreF D) := by
  have hl : (moreF D).files.length = D.files.length + 1 := by simp [moreF]
  refine ⟨?_, ?_, ?_, ok.calls, ok.left, ?_, ok.nchs, ok.nnow, ?_, ok.quota, ?_⟩
  · rw [hl]; exact fits_more ok.now (by omega)
  · rw [hl]; exact fits_more ok.safe (by omega)
  · intro c hc; rw [hl]; exact Ch.fits_more (ok.chs c hc) (by omega)
  · rw [hl]; omega
  · intro f hf
    simp only [moreF, List.mem_append, List.mem_singleton] at hf
    rcases hf with hf | rfl
    · exact ok.lens f hf
    · simp
  · show D.used = usedOf (D.files ++ [⟨[], 0⟩]) D.now
    rw [usedOf_more _ _ _ ok.now, ok.used]
end Go.Proofs.Ytcfdfpjemonhoaa.Dk
