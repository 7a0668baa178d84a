/-
  The contract of the disk's Append.
-/
import Derived.Test.YthfnhhfobaocoaaGreatDoorDkRow
namespace Go.Proofs.YthfnhhfobaocoaaGreatDoor.Dk
open Go.RowKit Go.Maps Go.WideMaps

theorem infoByte : (Tryz.prog.info? 5).map (fun i => (i.zero, i.size, i.bytes)) = some (some (.int .u8 0), 1, 1) := by kernel_rfl

theorem usedOf_bounds {fs : List Fl} (h : ∀ f ∈ fs, f.data.length ≤ 134217728) : ∀ m : DM, 0 ≤ usedOf fs m ∧ usedOf fs m ≤ 134217728 * (m.length : Int)
  | [] => by simp [usedOf]
  | y :: r => by
    obtain ⟨h1, h2⟩ := usedOf_bounds h r
    have h3 : fileLen fs y.2 ≤ 134217728 := by
      unfold fileLen
      cases hf : fs[y.2]? with
      | none => simp
      | some f => simp; exact h f (List.mem_of_getElem? hf)
    have e : usedOf fs (y :: r) = (fileLen fs y.2 : Int) + usedOf fs r := by simp [usedOf]
    rw [e, List.length_cons]
    omega

theorem openF_more (D : Dk) (k : List UInt8) : (openF D k).2.quota = D.quota ∧ (openF D k).2.used = D.used ∧ (openF D k).2.now = D.now := by
  obtain ⟨q1, q2, q3, q4, _⟩ := count_now D
  have e0 : openF D k = (let (e, D) := count D; if e ≠ 0 then ((none, e), D) else match getM D.now k with | none => ((none, 6), D) | some n => ((some n, 0), D)) := rfl
  obtain ⟨⟨r, D'⟩, hcd⟩ : ∃ x, x = count D := ⟨_, rfl⟩
  rw [← hcd] at q1 q3 q4 e0
  dsimp only at q1 q3 q4 e0
  by_cases hr : r = 0
  · rw [if_neg (by simpa using hr)] at e0
    cases hg : getM D'.now k with
    | none => rw [hg] at e0; rw [e0]; exact ⟨q3, q4, q1⟩
    | some n => rw [hg] at e0; rw [e0]; exact ⟨q3, q4, q1⟩
  · rw [if_pos hr] at e0; rw [e0]; exact ⟨q3, q4, q1⟩

theorem DiskAt.drewN {B : Nat} {w : World} {Y : Lay} {D : Dk} (h : DiskAt B w Y D) (n : Nat) : DiskAt B (w.drewN n) Y D := h.kept (Nat.le_refl _) (fun _ _ => rfl)
theorem Turn.drewN {X : List Nat} {a b : World} (h : Turn X a b) (n : Nat) : Turn X a (b.drewN n) := ⟨h.os, h.tape, h.output, h.size, h.block⟩
theorem Turn.grown {X : List Nat} {a b c : World} (h : Turn X a b) {row : Option Nat} (hg : b.grownBy c row) (hr : ∀ k ∈ row.toList, k ∈ X ∨ a.heap.size ≤ k) : Turn X a c :=
  ⟨hg.os.trans h.os, hg.tape.trans h.tape, hg.output.trans h.output, Nat.le_trans h.size hg.size, fun k hk hx => by
    rw [hg.block k (Nat.lt_of_lt_of_le hk h.size) (fun e => by
      rcases hr k (by rw [← e]; simp) with q | q
      · exact hx q
      · omega), h.block k hk hx]⟩

set_option maxHeartbeats 4000000 in
set_option maxRecDepth 100000 in
theorem append_any (B : Nat) (w : World) (Y : Lay) (D : Dk) (S T : ByteArray) (hS : S.size ≤ maxLen) (hT : T.size ≤ maxLen) (h : DiskAt B w Y D) (ok : Ok D) :
    Calls Tryz.prog 70 #[ptr Y.g, .string S, .string T] w (OpPost B Y w (.int .i64 (append D S.data.toList T.data.toList).1) (append D S.data.toList T.data.toList).2) := by
  obtain ⟨i0, hi, hz0, hz1, hz2⟩ := info_parts infoByte
  have O := Lib.hid (open_any B w Y D S hS h ok)
  have hlen := ok.lens
  obtain ⟨oq, ou, on⟩ := openF_more D S.data.toList
  have hub := usedOf_bounds (fun f hf => (hlen f hf).1) D.now
  rw [← ok.used] at hub
  have hquota := ok.quota
  have hnn := ok.nnow
  rcases openF_cases D S.data.toList ok.now with ⟨er, D', e1, hne, hfs⟩ | ⟨n, D', e1, hn, hfs⟩
  · have e2 : append D S.data.toList T.data.toList = (er, D') := by unfold append; rw [e1]
    rw [e2]
    rw [e1] at O
    have hri : (er == 0) = false := by simpa using hne
    clear e1 e2 hne hlen ok h oq ou on hub hquota hnn
    go_enter Tryz.func70, Tryz.ntmps70
    go_wp2_with fail
    refine O.out.mono ?_
    rintro e w1 ⟨kc', rfl, h1, ht⟩
    have H1 := Lib.hid h1; have HT := Lib.hid ht
    clear h1 ht O
    go_wp2
    go_ret
    exact opPost_same _ H1.out HT.out (by simp [mem_g]) rfl rfl
  · obtain ⟨f, hf⟩ : ∃ f, D'.files[n]? = some f := ⟨_, List.getElem?_eq_getElem hn⟩
    have hgd : D'.files.getD n ⟨[], 0⟩ = f := by rw [List.getD, hf]; rfl
    have hfl := (hlen f (by rw [← hfs]; exact List.mem_of_getElem? hf)).1
    have hTz := Lib.size_eq T
    have e2 : append D S.data.toList T.data.toList = if 134217728 < f.data.length + T.size then (1, D') else if D'.quota - D'.used < (T.size : Int) then (3, D') else
        (0, { putFile D' n { f with data := f.data ++ T.data.toList } with used := D'.used + T.size }) := by
      unfold append; rw [e1]; dsimp only; rw [hgd, hTz]
    rw [e1] at O oq ou on
    dsimp only at oq ou on
    rw [← oq] at hquota
    rw [← ou] at hub
    obtain ⟨R, hR⟩ : ∃ R, R = append D S.data.toList T.data.toList := ⟨_, rfl⟩
    rw [← hR] at e2 ⊢
    have E2 := Lib.hid e2
    clear e1 e2 hR hgd hlen ok h hfs oq ou on hTz
    obtain ⟨u0, u1⟩ := hub
    obtain ⟨a0, a1⟩ := hquota
    have u2 : D'.used ≤ 549755813888 := by omega
    clear u1 hnn
    go_enter Tryz.func70, Tryz.ntmps70
    go_wp2_with fail
    refine O.out.mono ?_
    rintro e w1 ⟨kc', rfl, h1, ht⟩
    obtain ⟨p, hp⟩ : ∃ p, Y.fs[n]? = some p := ⟨_, List.getElem?_eq_getElem (by have := h1.lenF; dsimp only at this; omega)⟩
    have hgp : Y.fs.getD n (0, .nilIface) = p := by rw [List.getD, hp]; rfl
    dsimp only
    rw [hgp]
    obtain ⟨k1, k2⟩ := h1.each n p f hp hf
    obtain ⟨a, cp, hv⟩ := row_slice k2
    have c0 : w1.cell? ⟨p.1, 0, none⟩ = some p.2 := cell_of_heap k1
    have f0 : w1.frozen? ⟨p.1, 0, none⟩ = false := frozen_of_heap k1
    have d0 : w1.cell? ⟨Y.g, 0, none⟩ = some (.int .i64 D'.quota) := h1.cell 0
    have d1 : w1.cell? ⟨Y.g, 1, none⟩ = some (.int .i64 D'.used) := h1.cell 1
    have g1 : w1.frozen? ⟨Y.g, 1, none⟩ = false := h1.frozen 1
    rw [hv] at c0
    have hB : B ≤ w1.heap.size := Nat.le_trans (h1.base Y.g (by simp [Lay.blocks])) (Nat.le_of_lt (h1.lt Y.g (by simp [Lay.blocks])))
    have H1 := Lib.hid h1; have HT := Lib.hid ht; have K1 := Lib.hid k1; have K2 := Lib.hid k2; have HP := Lib.hid hp; have HF := Lib.hid hf; have HV := Lib.hid hv
    clear h1 ht O hgp k1 k2 hv hp hf
    by_cases hbig : 134217728 < f.data.length + T.size
    · have ER : Hid (R = (1, D')) := Lib.hid (by rw [E2.out, if_pos hbig])
      have ib : (134217728 : Int) - (f.data.length : Int) < (T.size : Int) := by omega
      clear E2 hbig
      go_wp2
      go_ret
      rw [ER.out]
      exact opPost_same _ H1.out HT.out (by simp [mem_g]) rfl rfl
    · have ib : (T.size : Int) ≤ (134217728 : Int) - (f.data.length : Int) := by omega
      by_cases hfull : D'.quota - D'.used < (T.size : Int)
      · have ER : Hid (R = (3, D')) := Lib.hid (by rw [E2.out, if_neg hbig, if_pos hfull])
        clear E2 hbig
        go_wp2
        go_quiet (fail)
        go_wp2
        go_ret
        rw [ER.out]
        exact opPost_same _ (H1.out.drewN nq) (HT.out.drewN nq) (by simp [mem_g]) rfl rfl
      · have ER : Hid (R = (0, { putFile D' n { f with data := f.data ++ T.data.toList } with used := D'.used + T.size })) := Lib.hid (by rw [E2.out, if_neg hbig, if_neg hfull])
        have ifl : (T.size : Int) ≤ D'.quota - D'.used := by omega
        clear E2 hfull
        go_wp2
        go_quiet (fail)
        have hT2 : T.size ≤ 134217728 := by omega
        have H2 := Lib.hid (H1.out.drewN nq); have HT2 := Lib.hid (HT.out.drewN nq)
        have K12 : Hid ((w1.drewN nq).heap[p.1]? = some (.cells #[p.2, .int .i64 (f.safe : Int)] 268)) := K1
        have K22 : Hid ((w1.drewN nq).ownsRow B 5 1 p.2 f.data.length (Lib.byteCells f.data)) := K2
        have c0' : (w1.drewN nq).cell? ⟨p.1, 0, none⟩ = some (.slice a f.data.length cp) := c0
        have hB' : B ≤ (w1.drewN nq).heap.size := hB
        clear c0 d0 d1 g1 f0 H1 HT K1 K2 hB
        generalize w1.drewN nq = w2 at H2 HT2 K12 K22 c0' hB' ⊢
        rw [HV.out] at K22
        have hpg : p.1 ≠ Y.g := H2.out.ne_g (Y := { Y with kc := kc' }) (mem_fs HP.out)
        have hgp : Y.g ≠ p.1 := fun e => hpg e.symm
        go_wp2_with (at_builtin; refine wpList_append_string_at rfl _ _ 122 9 rfl B 5 i0 Tryz.underlying122 Tryz.underlying9 hi hz0 hz1 hz2 _ _ _ rfl K22.out T rfl (by unfold maxLen; omega) (by omega) hB' ?_)
        intro v' w3 hown3 hgrow hloc
        rw [← HV.out] at hgrow hloc
        obtain ⟨a', cp', rfl⟩ := row_slice hown3
        have hrow : ∀ b, b < w2.heap.size → b ∉ ob p.2 → w3.heap[b]? = w2.heap[b]? := fun b hb hnb => hgrow.block b hb (fun e => hnb (by rw [ob, ← e]; simp))
        have hp1lt : p.1 < w2.heap.size := lt_of_heap K12.out
        have hglt : Y.g < w2.heap.size := lt_of_heap H2.out.disk
        have hpn := H2.out.fd_ne (Y := { Y with kc := kc' }) HP.out
        have hgn : Y.g ∉ ob p.2 := fun hm => H2.out.ne_g (Y := { Y with kc := kc' }) (mem_fd HP.out hm) rfl
        have k13 : w3.heap[p.1]? = some (.cells #[p.2, .int .i64 (f.safe : Int)] 268) := (hrow p.1 hp1lt hpn).trans K12.out
        have g3 : w3.heap[Y.g]? = some (.cells (cellsOf { Y with kc := kc' } D') 76) := (hrow Y.g hglt hgn).trans H2.out.disk
        have c0 : w3.cell? ⟨p.1, 0, none⟩ = some p.2 := cell_of_heap k13
        rw [HV.out] at c0
        have f0 : w3.frozen? ⟨p.1, 0, none⟩ = false := frozen_of_heap k13
        have d1 : w3.cell? ⟨Y.g, 1, none⟩ = some (.int .i64 D'.used) := cell_of_heap g3
        have g1 : w3.frozen? ⟨Y.g, 1, none⟩ = false := frozen_of_heap g3
        have K13 := Lib.hid k13; have G3 := Lib.hid g3; have HROW := Lib.hid hrow; have HLOC := Lib.hid hloc; have HO3 := Lib.hid hown3; have HG3 := Lib.hid hgrow; have HPN := Lib.hid hpn
        have hT64 : D'.used + (T.size : Int) ≤ 1099511627776 := by omega
        clear k13 g3 hrow hloc hown3 hgrow hpn hgn c0' K22
        go_wp2
        go_ret
        rw [ER.out]
        have hs3 : w2.heap.size ≤ w3.heap.size := HG3.out.size
        have ecells : Lib.byteCells f.data ++ Lib.strCells T = Lib.byteCells (f.data ++ T.data.toList) := by rw [Lib.strCells_eq]; simp [Lib.byteCells]
        have elen : f.data.length + T.size = (f.data ++ T.data.toList).length := by rw [List.length_append, Lib.size_eq]
        have ho3 := HO3.out
        rw [ecells, elen] at ho3
        have hnew := H2.out.fileSet (Y := { Y with kc := kc' }) HP.out HF.out (.slice a' (f.data.length + T.size) cp') { f with data := f.data ++ T.data.toList } (w' := w3.setCell ⟨p.1, 0, none⟩ (.slice a' (f.data.length + T.size) cp'))
          (by simpa [World.setCell] using hs3)
          (fun b hb hnb => by
            rw [Below.heap_setCell _ _ _ _ (by intro e; subst e; exact hnb (by simp [fb]))]
            exact HROW.out b hb (fun hm => hnb (by simp [fb, hm])))
          (by rw [setCell_heap _ _ _ _ _ _ K13.out]; rfl)
          (row_kept (by rw [← elen]; rw [← elen] at ho3; exact ho3) (fun b hb _ => Below.heap_setCell _ _ _ _ (by
            intro e; subst e
            rcases HLOC.out _ hb with k | k
            · exact HPN.out k
            · have k' : w2.heap.size ≤ p.1 := k
              omega)))
          HLOC.out
        have hfin := hnew.scalars (Y := { Y with kc := kc', fs := Y.fs.set n (p.1, .slice a' (f.data.length + T.size) cp') }) Y.kn kc' { putFile D' n { f with data := f.data ++ T.data.toList } with used := D'.used + T.size } rfl rfl rfl rfl
          (w' := (w3.setCell ⟨p.1, 0, none⟩ (.slice a' (f.data.length + T.size) cp')).setCell ⟨Y.g, 1, none⟩ (.int .i64 (D'.used + (T.size : Int))))
          (by
            rw [setCell_heap _ _ _ _ _ _ ((Below.heap_setCell _ _ _ _ hgp).trans G3.out)]
            simp [cellsOf, putFile])
          (by simp [World.setCell])
          (fun b hb hne => Below.heap_setCell _ _ _ _ hne)
          (hnew.kn.kept (by simp [World.setCell]) (fun b hb hnb => Below.heap_setCell _ _ _ _ (fun e => hnb (by rw [e]; exact mem_g _))) (fun _ _ x => x))
          (hnew.kc.kept (by simp [World.setCell]) (fun b hb hnb => Below.heap_setCell _ _ _ _ (fun e => hnb (by rw [e]; exact mem_g _))) (fun _ _ x => x))
        have hpY : p.1 ∈ Y.blocks := in_blocks (mem_fs HP.out)
        refine ⟨_, rfl, hfin, ?_, ?_, rfl⟩
        · have t1 : Turn Y.blocks w w3 := (HT2.out.mono (by simp [mem_g])).grown HG3.out (fun k hk => .inl (in_blocks (mem_fd HP.out hk)))
          exact (t1.setCell (.inl hpY) _).setCell (.inl (mem_g Y)) _
        · intro b hb
          rcases blocks_set (Y := { Y with kc := kc' }) HP.out (.slice a' (f.data.length + T.size) cp') b hb with k | k
          · exact .inl k
          · rcases HLOC.out b k with k | k
            · exact .inl (in_blocks (mem_fd HP.out k))
            · exact .inr (Nat.le_trans HT2.out.size k)
end Go.Proofs.YthfnhhfobaocoaaGreatDoor.Dk
