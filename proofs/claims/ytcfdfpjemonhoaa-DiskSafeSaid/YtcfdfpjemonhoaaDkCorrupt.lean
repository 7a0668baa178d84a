/-
  The contract of the disk's Corrupt.
-/
import Derived.Test.YtcfdfpjemonhoaaDkTwin
import Derived.Lib.BufferWrite
namespace Go.Proofs.Ytcfdfpjemonhoaa.Dk
open Go.RowKit Go.Maps Go.WideMaps

theorem wpList_copy_str {P : Program} {w : World} {ops : Array Oper} {rest : List Oper} {o : Oper} {a : Act} {Q : Exit → Act → World → Prop} (hgd : o.guard = none) (d s : Operand) (dT sT : TypeId)
    (ho : o.op = .call { callee := .builtin .copy, args := #[d, s], argTypes := #[dT, sT] }) (dv sv r : Value) (w' : World) (hd : a.eval d = dv) (hs : a.eval s = sv)
    (hrun : ∀ ty, (Builtin.copy_ #[dT, sT] ty #[dv, sv]).run P w = .ok r w') (h : wpList P ops Q rest (a.put o.dst r) w') : wpList P ops Q (o :: rest) a w := by
  refine wpList_plain hgd fun K hK => ?_
  unfold Oper.wp
  simp [execOp, ho, resolve, invoke, builtin, hd, hs, hrun, Result.andThen]
  exact hK _ _ h

theorem set_take {α : Type} (cur X : List α) (at' n : Nat) (h : at' + X.length ≤ n) (hn : n ≤ cur.length) : (cur.take at' ++ X ++ cur.drop (at' + X.length)).take n = (cur.take n).take at' ++ X ++ (cur.take n).drop (at' + X.length) := by
  rw [List.append_assoc, List.take_append, List.take_append, List.append_assoc]
  have h1 : (List.take at' cur).length = at' := by rw [List.length_take]; omega
  rw [h1, List.take_take, List.take_take, List.drop_take]
  congr 1
  · congr 1; omega
  · congr 1
    · exact List.take_of_length_le (by omega)
    · congr 1; omega

set_option maxHeartbeats 8000000 in
set_option maxRecDepth 100000 in
theorem corrupt_any (B : Nat) (w : World) (Y : Lay) (D : Dk) (S T : ByteArray) (A : Int) (hS : S.size ≤ maxLen) (hT : T.size ≤ maxLen) (h : DiskAt B w Y D) (ok : Ok D) :
    Calls Try.prog 25 #[ptr Y.g, .string S, .int .i64 A, .string T] w (OpPost B Y w (.int .i64 (corrupt D S.data.toList A T.data.toList).1) (corrupt D S.data.toList A T.data.toList).2) := by
  have H := Lib.hid h
  have c12 : w.cell? ⟨Y.g, 12, none⟩ = some (.bool D.down) := h.cell 12
  have c3 : w.cell? ⟨Y.g, 3, none⟩ = some (.map (some Y.bn)) := h.cell 3
  cases hd : D.down with
  | true =>
    have e1 : corrupt D S.data.toList A T.data.toList = (8, D) := by unfold corrupt; rw [hd]; rfl
    rw [e1]
    rw [hd] at c12
    clear h e1 ok
    unfold ptr
    go_enter Try.func25, Try.ntmps25
    go_wp2
    go_ret
    exact opPost_same _ H.out (Turn.refl [] _) (by simp) rfl rfl
  | false =>
    rw [hd] at c12
    have hlk := look_run h.now S hS
    cases hg : getM D.now S.data.toList with
    | none =>
      have e1 : corrupt D S.data.toList A T.data.toList = (6, D) := by unfold corrupt; rw [hd, hg]; rfl
      rw [e1]
      rw [hg] at hlk
      clear h e1 hg ok
      unfold ptr
      go_enter Try.func25, Try.ntmps25
      go_wp2
      go_ret
      exact opPost_same _ H.out (Turn.refl [] _) (by simp) rfl rfl
    | some n =>
      rw [hg] at hlk
      have hn : n < Y.fs.length := by rw [h.lenF]; exact fits_get ok.now hg
      obtain ⟨f, hf⟩ : ∃ f, D.files[n]? = some f := ⟨_, List.getElem?_eq_getElem (by rw [← h.lenF]; exact hn)⟩
      obtain ⟨p, hp⟩ : ∃ p, Y.fs[n]? = some p := ⟨_, List.getElem?_eq_getElem hn⟩
      have hgd : D.files.getD n ⟨[], 0⟩ = f := by rw [List.getD, hf]; rfl
      have e1 : corrupt D S.data.toList A T.data.toList = if A < 0 ∨ (f.data.length : Int) < A ∨ (f.data.length : Int) - A < (T.data.toList.length : Int) then (1, D) else (0, putFile D n { f with data := f.data.take A.toNat ++ T.data.toList ++ f.data.drop (A.toNat + T.data.toList.length) }) := by
        unfold corrupt; rw [hd, hg]; simp only [hgd]; rfl
      rw [size_toList] at e1
      obtain ⟨R, hR⟩ : ∃ R, R = corrupt D S.data.toList A T.data.toList := ⟨_, rfl⟩
      rw [← hR] at e1 ⊢
      obtain ⟨gf, cap, cur, hvf, hgf, hcur⟩ := file_cell h hp
      obtain ⟨k1, k2⟩ := h.each n p f hp hf
      obtain ⟨pa, pc, hpv⟩ := row_slice k2
      have hfl := (ok.lens f (List.mem_of_getElem? hf)).1
      have c2 : w.cell? ⟨Y.g, 2, none⟩ = some Y.vf := h.cell 2
      rw [hvf] at c2
      have hcf : w.cell? ⟨gf, n, none⟩ = some (.pointer (some ⟨p.1, 0, none⟩)) := (cell_of_heap hgf).trans hcur
      have hni : (n : Int) < (D.files.length : Int) := by have := h.lenF; omega
      have b0 : w.cell? ⟨p.1, 0, none⟩ = some p.2 := cell_of_heap k1
      rw [hpv] at b0 k2
      have hpc := row_cap k2
      have HP := Lib.hid hp; have HF := Lib.hid hf; have K1 := Lib.hid k1; have K2 := Lib.hid k2; have HPV := Lib.hid hpv; have E1 := Lib.hid e1
      clear h e1 hg ok hR hgd hvf hgf hcur hp hf k1 k2 hpv hn
      unfold ptr
      by_cases h1 : A < 0
      · have ER : Hid (R = (1, D)) := Lib.hid (by rw [E1.out, if_pos (.inl h1)])
        clear E1
        go_enter Try.func25, Try.ntmps25
        go_wp2
        go_ret
        rw [ER.out]
        exact opPost_same _ H.out (Turn.refl [] _) (by simp) rfl rfl
      · obtain ⟨k, rfl⟩ : ∃ k : Nat, A = (k : Int) := ⟨A.toNat, by omega⟩
        by_cases h2 : f.data.length < k
        · have ER : Hid (R = (1, D)) := Lib.hid (by rw [E1.out, if_pos (.inr (.inl (by omega)))])
          clear E1 h1
          go_enter Try.func25, Try.ntmps25
          go_wp2
          go_ret
          rw [ER.out]
          exact opPost_same _ H.out (Turn.refl [] _) (by simp) rfl rfl
        · have hw : IntKind.i64.wrap ((f.data.length : Int) - (k : Int)) = (f.data.length : Int) - (k : Int) := by rw [IntKind.wrap_i64]; omega
          by_cases h3 : f.data.length < k + T.size
          · have ER : Hid (R = (1, D)) := Lib.hid (by rw [E1.out, if_pos (.inr (.inr (by omega)))])
            have h3' : (f.data.length : Int) - (k : Int) < (T.size : Int) := by omega
            clear E1 h1 h3
            go_enter Try.func25, Try.ntmps25
            go_wp2
            go_ret
            rw [ER.out]
            exact opPost_same _ H.out (Turn.refl [] _) (by simp) rfl rfl
          · have ER : Hid (R = (0, putFile D n { f with data := f.data.take k ++ T.data.toList ++ f.data.drop (k + T.size) })) := Lib.hid (by rw [E1.out, if_neg (by omega)]; rfl)
            have h3' : ¬ (f.data.length : Int) - (k : Int) < (T.size : Int) := by omega
            clear E1 h1
            have hTl := size_toList T
            by_cases h0 : T.size = 0
            · have hT0 : T.data.toList = [] := List.length_eq_zero_iff.1 (by rw [hTl]; exact h0)
              have e2 : putFile D n { f with data := f.data.take k ++ T.data.toList ++ f.data.drop (k + T.size) } = D := by
                rw [hT0, h0, Nat.add_zero, List.append_nil, List.take_append_drop]
                show { D with files := D.files.set n f } = D
                have hs : D.files.set n f = D.files := by
                  obtain ⟨hi, he⟩ := List.getElem?_eq_some_iff.1 HF.out
                  rw [← he]; exact List.set_getElem_self hi
                rw [hs]
              rw [e2] at ER
              clear e2 hT0 hTl
              go_enter Try.func25, Try.ntmps25
              go_wp2_with (refine wpList_copy_str rfl _ _ 69 9 rfl _ _ _ w rfl rfl (fun ty => Lib.run_copy_empty_string w 69 9 ty 5 _ _ _ T Try.underlying69 (by kernel_rfl) h0) ?_)
              all_goals
                go_ret
                rw [ER.out]
                exact opPost_same _ H.out (Turn.refl [] _) (by simp) rfl rfl
            · obtain ⟨hl, ⟨hq, _⟩ | ⟨g, cp, cur', hq, hg1, hg2, hg3, hg4, hg5, hg6⟩⟩ := K2.out
              · injection hq with _ hq _; omega
              · injection hq with e1 _ e3
                subst e1
                subst e3
                have hpk : ¬ pc = k := by omega
                rw [Nat.mul_one] at hg5 hg6
                have hcl : cur'.toList.length = pc := by rw [Array.length_toList]; exact hg5
                have hrun : ∀ ty, (Builtin.copy_ #[69, 9] ty #[.slice (some ⟨g, k, none⟩) (f.data.length - k) (pc - k), .string T]).run Try.prog w = .ok (goInt T.size) (w.setRow g (cur'.toList.take k ++ Lib.byteCells T.data.toList ++ cur'.toList.drop (k + T.size)).toArray) := fun ty =>
                  Lib.run_copy_row_string w 69 9 ty 5 g k (f.data.length - k) (pc - k) T cur' 5 Try.underlying69 (by kernel_rfl) hg2 (by omega) (by omega)
                have hgne : g ≠ p.1 := fun e => H.out.fd_ne HP.out (by rw [HPV.out]; simp [ob, Value.ownBlock, e])
                have hwg : (w.setRow g (cur'.toList.take k ++ Lib.byteCells T.data.toList ++ cur'.toList.drop (k + T.size)).toArray).heap[g]? = some (.cells (cur'.toList.take k ++ Lib.byteCells T.data.toList ++ cur'.toList.drop (k + T.size)).toArray 5) := by
                  simp [World.setRow, Array.getElem?_modify, hg2]
                have hwo : ∀ b, b ≠ g → (w.setRow g (cur'.toList.take k ++ Lib.byteCells T.data.toList ++ cur'.toList.drop (k + T.size)).toArray).heap[b]? = w.heap[b]? := fun b hne => by
                  simp [World.setRow, Array.getElem?_modify, Ne.symm hne]
                have hbT : (Lib.byteCells T.data.toList).length = T.size := by rw [Lib.byteCells_length, hTl]
                have hnlen : (f.data.take k ++ T.data.toList ++ f.data.drop (k + T.size)).length = f.data.length := by
                  rw [List.length_append, List.length_append, List.length_take, List.length_drop, hTl]; omega
                have hnew := H.out.fileSet HP.out HF.out (.slice (some ⟨g, 0, none⟩) f.data.length pc) { f with data := f.data.take k ++ T.data.toList ++ f.data.drop (k + T.size) } (w' := w.setRow g (cur'.toList.take k ++ Lib.byteCells T.data.toList ++ cur'.toList.drop (k + T.size)).toArray)
                  (by simp [World.setRow]) (fun b hb hnb => hwo b (fun e => hnb (by rw [fb, HPV.out, e]; simp [ob, Value.ownBlock])))
                  (by rw [hwo _ (Ne.symm hgne), K1.out, HPV.out])
                  (by
                    show World.ownsRow _ B _ 1 _ (f.data.take k ++ T.data.toList ++ f.data.drop (k + T.size)).length (Lib.byteCells (f.data.take k ++ T.data.toList ++ f.data.drop (k + T.size)))
                    rw [hnlen]
                    refine ⟨by rw [Lib.byteCells_length, hnlen, Nat.mul_one], .inr ⟨g, pc, _, rfl, hg1, hwg, hg3, hg4, ?_, ?_⟩⟩
                    · simp only [List.size_toArray, List.length_append, List.length_take, List.length_drop, hcl, hbT]; omega
                    · rw [Nat.mul_one]
                      have := set_take cur'.toList (Lib.byteCells T.data.toList) k f.data.length (by omega) (by omega)
                      rw [hbT] at this
                      simp only [List.toList_toArray]
                      rw [this, hg6]
                      simp [Lib.byteCells, List.map_take, List.map_drop])
                  (fun b hb => .inl (by rw [HPV.out]; exact hb))
                have HNEW := Lib.hid hnew
                have hgY : g ∈ Y.blocks := in_blocks (mem_fd HP.out (by rw [HPV.out]; simp [ob, Value.ownBlock]))
                have hset : Y.fs.set n (p.1, .slice (some ⟨g, 0, none⟩) f.data.length pc) = Y.fs := by
                  obtain ⟨hi, he⟩ := List.getElem?_eq_some_iff.1 HP.out
                  have e : (p.1, Value.slice (some ⟨g, 0, none⟩) f.data.length pc) = Y.fs[n] := by rw [he, ← HPV.out]
                  rw [e]; exact List.set_getElem_self hi
                have HTU : Hid (Turn Y.blocks w (w.setRow g (cur'.toList.take k ++ Lib.byteCells T.data.toList ++ cur'.toList.drop (k + T.size)).toArray)) := Lib.hid ⟨rfl, rfl, rfl, by simp [World.setRow], fun b hb hnb => hwo b (fun e => hnb (by rw [e]; exact hgY))⟩
                have HSET := Lib.hid hset
                clear hnew hwg hwo hg6 hg2 hnlen hset
                have HRUN := Lib.hid hrun
                clear hrun
                generalize w.setRow g (cur'.toList.take k ++ Lib.byteCells T.data.toList ++ cur'.toList.drop (k + T.size)).toArray = w2 at HNEW HTU HRUN
                go_enter Try.func25, Try.ntmps25
                go_wp2_with (refine wpList_copy_str rfl _ _ 69 9 rfl _ _ _ w2 rfl rfl HRUN.out ?_)
                go_ret
                rw [ER.out]
                have hfin := HNEW.out
                rw [HSET.out] at hfin
                exact ⟨Y, rfl, hfin, HTU.out, fun b hb => .inl hb, rfl⟩
end Go.Proofs.Ytcfdfpjemonhoaa.Dk
