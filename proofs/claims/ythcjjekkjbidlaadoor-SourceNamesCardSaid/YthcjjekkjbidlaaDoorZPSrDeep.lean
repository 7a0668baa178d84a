import Derived.Test.YthcjjekkjbidlaaDoorZPSrShape
import Derived.Maps.RangeWalk
set_option linter.unusedSimpArgs false
set_option linter.unusedVariables false
/-
  The contract of deep: how many names the longest path beneath a node has.
-/
namespace Go.Proofs.YthcjjekkjbidlaaDoor.Sr
open Go.RowKit Go.Maps Go.WideMaps Go.Proofs.YthcjjekkjbidlaaDoor.Rf Go.Proofs.YthcjjekkjbidlaaDoor.Nm Go.Proofs.YthcjjekkjbidlaaDoor.St

def DeepOk (B r : Nat) (T : Tr) (e : TE) : Prop := ∀ (w : World), TreeAt B w r T →
  Calls Tryd.prog 47 #[ptr e.p] w fun x w' => x = .returned (.int .i64 (deepN T.L e.nm : Int)) ∧ Below w.heap.size w w'
theorem str_inv (key : Value) (kl : Lit) (h : keyOf Tryd.prog 9 key = some kl) : ∃ x, key = Value.string x := by
  obtain ⟨s, rfl, _⟩ := string_of_keyOf Tryd.underlying9 h
  exact ⟨s, rfl⟩
theorem held_inv (v : Value) (y : DataW Value × List MemPlace) (_h : Rv v = some y) : ∃ c, v = id c := ⟨v, rfl⟩
set_option linter.unusedSimpArgs false in
set_option maxHeartbeats 8000000 in
set_option maxRecDepth 100000 in
theorem deep_step (B r : Nat) (T : Tr) (hM : ∀ e ∈ T.L, e.nm.length ≤ 1000) (e : TE) (he : e ∈ T.L) (ih : ∀ x ∈ T.L, ∀ s, x.nm = e.nm ++ [s] → DeepOk B r T x) : DeepOk B r T e := by
  intro w h
  have mixed : Tryd.prog.follows Departure.mixedOrders = true := by kernel_rfl
  have H := Lib.hid h; have HE := Lib.hid he; have IH := Lib.hid ih; have HM := Lib.hid hM
  have c10 : w.cell? ⟨e.p, 10, none⟩ = some (mapV e.m) := cell_of_heap (h.node e he).cells
  have HDB : Hid (deepN T.L e.nm ≤ 1000) := Lib.hid (deepN_bound hM)
  clear ih hM
  unfold ptr at *
  cases hm : e.m with
  | none =>
    have hd : deepN T.L e.nm = 0 := Nat.le_zero.1 (deep_of h.parT (fun s ⟨x, hx, hxn⟩ => by
      obtain ⟨u, hu, h1, h2⟩ := h.par x hx _ _ hxn
      rw [srtT_inj h.srt hu he h1] at h2
      exact absurd hm h2))
    rw [hm] at c10
    have HD := Lib.hid hd
    unfold mapV at c10
    clear h he hd
    go_enter Tryd.func47, Tryd.ntmps47
    have hrn := run_range_nilMap (P := Tryd.prog) w 94 _ _ Tryd.underlying94
    have hnx := fun ty => run_next_nilMap (P := Tryd.prog) w ty 0 0 #[]
    go_wp2
    go_loopw [3] (fun v3 wr => v3 = .int .i64 0 ∧ wr = w.alloc (.mapIter none 0 #[] 0)) (fun _ _ => 0)
    case atStart => exact ⟨rfl, rfl⟩
    case round =>
      obtain ⟨rfl, rfl⟩ := hrel
      go_wp2
      go_ret
      rw [HD.out]
      exact ⟨rfl, (Below.refl _ _).alloc (Nat.le_refl _) _⟩
  | some b =>
    have HMP := Lib.hid ((h.node e he).kids b hm)
    rw [hm] at c10
    unfold mapV at c10
    have HBW : Hid (b < w.heap.size) := Lib.hid ((h.node e he).kids b hm).lt
    clear h he
    go_enter Tryd.func47, Tryd.ntmps47
    go_wp2_with (first
      | (at_range; refine wpList_range_own _ rfl _ 94 rfl 9 89 law Tryd.underlying94 Rv b 1000000 (toD ptr (kidsT T.L e.nm)) rfl HMP.out ?_; intro w0 hrg0 hg0 hs0)
      | go_in)
    go_frame
    have HB0 : Hid (Below w.heap.size w w0) := Lib.hid ((Below.refl _ w).grown hg0 (Nat.le_refl _) (by simp))
    have HRG0 := Lib.hid hrg0
    clear hrg0 hg0 hs0 c10
    go_loopw [3] (fun v3 wr => ∃ (left : Lit → Bool) (cnt : Nat) (most : Nat), v3 = .int .i64 (most : Int) ∧ Hid (wr.ranges Tryd.prog 9 Rv b w.heap.size 1000000 (toD ptr (kidsT T.L e.nm)) left cnt) ∧ Hid (most ≤ deepN T.L e.nm ∧ ∀ k, (getM (kidsT T.L e.nm) k).isSome = true → left (.string k) = false → 1 + deepN T.L (e.nm ++ [k]) ≤ most) ∧ Hid (Below w.heap.size w wr)) (fun _ wr => wr.rangeLeft b w.heap.size)
    case atStart =>
      refine ⟨_, _, 0, rfl, HRG0, Lib.hid ⟨Nat.zero_le _, fun k hk hl => ?_⟩, HB0⟩
      rw [toD_has, hk] at hl; cases hl
    case round =>
      obtain ⟨left, cnt, most, rfl, HR, HS, HB⟩ := hrel
      go_wp2_with (first
        | (at_next; refine wpList_next_ranges (α := ByteArray) (β := Value) _ rfl _ rfl 9 law Rv Value.string id str_inv held_inv b w.heap.size 1000000 _ _ _ (by first | rfl | simp [Act.eval, World.setCell]) HR.out ?_ ?_)
        | go_in)
      · intro _ hl0
        have hd : most = deepN T.L e.nm := Nat.le_antisymm HS.out.1 (deep_of H.out.parT (fun s ⟨x, hx, hxn⟩ => HS.out.2 s (by
          rw [kidsT_get H.out.srt]
          have := getT_of H.out.srt hx
          rw [hxn] at this
          rw [this]; rfl) (hl0 _)))
        subst hd
        clear hl0
        go_wp2
        go_ret
        exact ⟨rfl, HB.out⟩
      · intro x c kl yd yp w2 cnt1 hkey hlx hv hat hrg1 hlt hg1 hs1 hen
        obtain ⟨x', ex, ekl, hxl⟩ := string_of_keyOf Tryd.underlying9 hkey
        injection ex with ex
        subst ex
        subst ekl
        have hv2 : yd = .held c := by
          have := congrArg Prod.fst (Option.some.inj hv)
          exact this.symm
        subst hv2
        have hhas := has_true_of_atKey hat
        rw [toD_has] at hhas
        obtain ⟨q, hq⟩ := Option.isSome_iff_exists.1 hhas
        have hcn := hat (.held .nilIface)
        rw [toD_at, hq] at hcn
        injection hcn with hcn
        have hcn' : ptr q = c := hcn
        subst hcn'
        rw [kidsT_get H.out.srt] at hq
        obtain ⟨kn, hkn, rfl⟩ : ∃ kn, getT (e.nm ++ [x.data.toList]) T.L = some kn ∧ kn.p = q := by
          cases hg : getT (e.nm ++ [x.data.toList]) T.L with
          | none => rw [hg] at hq; cases hq
          | some kn => rw [hg] at hq; exact ⟨kn, rfl, Option.some.inj hq⟩
        obtain ⟨hkm, hknm⟩ := getT_nm hkn
        have hb2 : Below w.heap.size w w2 := HB.out.grown hg1 HB.out.size (fun y hy => by obtain rfl := Option.some.inj hy; exact Nat.le_refl _)
        have CL := IH.out kn hkm _ hknm w2 (H.out.below hb2)
        have hk1 : 1 + deepN T.L kn.nm ≤ deepN T.L e.nm := by rw [hknm]; exact deep_kid ⟨kn, hkm, hknm⟩
        have HB2 := Lib.hid hb2; have HRG := Lib.hid hrg1; have HLT := Lib.hid hlt
        have CL := Lib.hid CL
        have hd1 := HDB.out
        have hd2 : deepN T.L kn.nm ≤ 1000 := by omega
        have hms : most ≤ 1000 := Nat.le_trans HS.out.1 HDB.out
        have hwr : IntKind.i64.wrap (1 + (deepN T.L kn.nm : Int)) = 1 + (deepN T.L kn.nm : Int) := by rw [IntKind.wrap_i64]; omega
        have HK1 := Lib.hid hk1; have HKN := Lib.hid hknm
        have hrw : w.heap.size < w2.heap.size := hrg1.lt
        have HBL := Lib.hid (Nat.lt_of_lt_of_le HBW.out hb2.size)
        clear hv hat hhas hcn hq hkn hkm hknm hb2 hrg1 hlt hkey hlx hg1 hk1 hd1
        unfold ptr at CL hen ⊢
        try dsimp only [id] at hen ⊢
        go_wp2_with fail
        refine CL.out.mono ?_
        rintro ex w3 ⟨rfl, hb3⟩
        have HR3 : Hid (w3.ranges Tryd.prog 9 Rv b w.heap.size 1000000 (toD ptr (kidsT T.L e.nm)) (fun z => left z && !z.sameKey (.string x.data.toList)) cnt1) := Lib.hid (by
          obtain ⟨es, clock, since, seen, c0, h1, h2, h3, h4, h5, h6⟩ := HRG.out
          exact ⟨es, clock, since, seen, c0, (hb3.block b HBL.out).trans h1, h2, h3, h4, (hb3.block _ hrw).trans h5, h6⟩)
        have HB3 := Lib.hid (HB2.out.trans (hb3.mono HB2.out.size))
        clear hb3 CL
        go_wp2
        go_roundw
        case rel =>
          refine ⟨_, cnt1, max most (1 + deepN T.L kn.nm), ?_, HR3, Lib.hid ⟨Nat.max_le.2 ⟨HS.out.1, HK1.out⟩, fun k hk hl => ?_⟩, HB3⟩
          · go_num
          · simp only [Bool.and_eq_false_iff, Bool.not_eq_false', sameKey_string, beq_iff_eq] at hl
            rcases hl with hl | rfl
            · exact Nat.le_trans (HS.out.2 k hk hl) (Nat.le_max_left _ _)
            · rw [← HKN.out]; exact Nat.le_max_right _ _
        case measure =>
          rw [HR3.out.left_eq, HR.out.left_eq]; exact HLT.out
theorem deep_any (B r : Nat) (T : Tr) (hM : ∀ e ∈ T.L, e.nm.length ≤ 1000) : ∀ (k : Nat) (e : TE), e ∈ T.L → 1000 ≤ e.nm.length + k → DeepOk B r T e
  | 0, e, he, hk => deep_step B r T hM e he (fun x hx s hxn => by
      have h1 := hM x hx
      have h2 := congrArg List.length hxn
      rw [List.length_append] at h2
      simp at h2
      omega)
  | k + 1, e, he, hk => deep_step B r T hM e he (fun x hx s hxn => deep_any B r T hM k x hx (by
      have h2 := congrArg List.length hxn
      rw [List.length_append] at h2
      simp at h2
      omega))
end Go.Proofs.YthcjjekkjbidlaaDoor.Sr
