import Derived.Test.YthcjjekkjbidlaaDoorZPSrDrop
set_option linter.unusedSimpArgs false
set_option linter.unusedVariables false
/-
  The contracts of Read, Reads, Now and Folder.
-/
namespace Go.Proofs.YthcjjekkjbidlaaDoor.Sr
open Go.RowKit Go.Maps Go.WideMaps Go.Proofs.YthcjjekkjbidlaaDoor.Rf Go.Proofs.YthcjjekkjbidlaaDoor.Nm Go.Proofs.YthcjjekkjbidlaaDoor.St

/-- As a folder's. -/
def asFold (A : XA) : XA := { A with node := 2, target := [] }
/-- What add made of the tree, told as a call's. -/
theorem AddPost.call {B : Nat} {w w0 w' : World} {r : Nat} {T : Tr} {p d : List UInt8} {A : XA} {e : Ending} (h : AddPost B w r T p d A e w') (hT : TreeAt B w0 r T) (hb : Below w0.heap.size w0 w) (hd : d.length ≤ 1048576 ∨ addE p d A T ≠ 0) (hkk : (splitL p).length ≤ 16) :
    e = .returned (.int .i64 (addE p d A T)) ∧ ∃ T', CallT B w0 r T w' T' ∧ (addE p d A T ≠ 0 → T' = T) ∧ (addE p d A T = 0 → ∃ n u, u ∈ T.L ∧ u.nm = (splitL p).dropLast ∧ n.nm = splitL p ∧ n.ino = T.most + 1 ∧ n.at_ = A ∧ n.data = d ∧ n.tick = 0 ∧ T' = { T with clock := T.clock + 1, most := T.most + 1, L := tickT [n.p, u.p] ((T.clock + 1 : Nat) : Int) (insT n T.L) }) := by
  obtain ⟨he, hno, hyes⟩ := h
  refine ⟨he, ?_⟩
  by_cases h0 : addE p d A T = 0
  · obtain ⟨n, u, hu, hun, hn, hi, ha, hdd, ht, htree, hturn, hnew⟩ := hyes h0
    refine ⟨_, ⟨htree, (Turn.of_below hb).trans hturn (fun y hy => .inl hy), fun b hb' => ?_, ?_⟩, fun h1 => absurd h0 h1, fun _ => ⟨n, u, hu, hun, hn, hi, ha, hdd, ht, rfl⟩⟩
    · have hnew' : ∀ b ∈ ownE n ++ xob n.at_.xs n.xv, w0.heap.size ≤ b := fun b hb2 => Nat.le_trans hb.size (hnew b hb2)
      rw [List.mem_append] at hb' ⊢
      rcases hb' with hb' | hb'
      · have hb' : b ∈ ownL (tickT [n.p, u.p] _ (insT n T.L)) := hb'
        rw [own_tickT, (own_ins n T.L).mem_iff, List.mem_append] at hb'
        rcases hb' with hb' | hb'
        · exact .inr (hnew' b (by simp [hb']))
        · exact .inl (.inl hb')
      · obtain ⟨x', hx', hb'⟩ := List.mem_flatMap.1 hb'
        have : ∃ x ∈ insT n T.L, b ∈ xob x.at_.xs x.xv := by
          obtain ⟨x, hx, rfl | rfl⟩ := tickT_mem hx'
          · exact ⟨_, hx, hb'⟩
          · exact ⟨x, hx, hb'⟩
        obtain ⟨x, hx, hb2⟩ := this
        rcases mem_insT.1 hx with rfl | hx
        · exact .inr (hnew' b (by simp [hb2]))
        · exact .inl (.inr (List.mem_flatMap.2 ⟨x, hx, hb2⟩))
    · have hE := h0
      rw [addE] at hE
      split at hE
      · cases hE
      · next hs =>
        split at hE
        · cases hE
        · next hck =>
          split at hE
          · cases hE
          · next hgn =>
            split at hE
            · next h5 => exact absurd hE h5
            · split at hE
              · cases hE
              · next h6 =>
                have hgn' : getT (splitL p) T.L = none := by
                  cases hq : getT (splitL p) T.L with
                  | none => rfl
                  | some x => rw [hq] at hgn; exact absurd rfl hgn
                refine .add n u hu ⟨by rw [hn]; exact hT.root_path hgn', by rw [hn]; exact hun⟩ (by rw [hn]; exact hgn') hi ht (by omega) ?_ ?_ ⟨by rw [hn]; exact hkk, fun s hs => splitL_chk (by rw [hn] at hs; exact hs)⟩
                · rw [hdd]; rcases hd with hd | hd
                  · exact hd
                  · exact absurd h0 hd
                · rw [ha]; by_cases hA : chkA A = true
                  · exact hA
                  · exact absurd (.inl (by simpa using hA)) hck
  · obtain ⟨h1, h2⟩ := hno h0
    exact ⟨T, ⟨h1, Turn.of_below (hb.trans (h2.mono hb.size)), fun _ h => .inl h, .same T⟩, fun _ => rfl, fun h => absurd h h0⟩
end Go.Proofs.YthcjjekkjbidlaaDoor.Sr
