import Derived.Test.YtkeegnhjemhblaaGreatDoorZPDrB0
import Derived.Test.YtkeegnhjemhblaaGreatDoorZPDeProg
import Derived.Test.YtkeegnhjemhblaaGreatDoorZPRbPair
import Derived.Test.YtkeegnhjemhblaaGreatDoorZPRbEnd
import Derived.Test.YtkeegnhjemhblaaGreatDoorZPRbRise
import Derived.Test.YtkeegnhjemhblaaGreatDoorZPRbCrc
import Derived.Laws.ResultCell
import Derived.Test.YtkeegnhjemhblaaGreatDoorZPRfDec1
import Derived.Stop.BytesEq
set_option linter.unusedSimpArgs false
set_option linter.unusedVariables false
/-
  The contract of the reference's Decode, at any bytes. Printed by gendrb.py.
-/
set_option linter.unusedSimpArgs false
namespace Go.Proofs.YtkeegnhjemhblaaGreatDoor.Rb
open Go.RowKit Go.Maps Go.WideMaps Go.Proofs.YtkeegnhjemhblaaGreatDoor.Rf

def RDecPost (w : World) (o : Option BK) (e : Ending) (w' : World) : Prop :=
  Below w.heap.size w w' ∧ match o with
  | some K => ∃ r v Z, e = .returned (.tuple #[ptr r, .int .i64 0]) ∧ RBk w.heap.size w' r v Z ∧ plainB Z = K ∧ OkB K
  | none => e = .returned (.tuple #[.pointer none, .int .i64 4])
theorem decR_no {S : List UInt8} (h : ¬ okH S) : decR S = none := by rw [decR, if_neg h]
set_option maxHeartbeats 40000000 in
set_option maxRecDepth 100000 in
theorem rdecode_any (w : World) (hT : Nm.Tabs w) (S : List UInt8) (hS : S.length ≤ 140737488355328) :
    Calls Tryz.prog 8 #[.string ⟨S.toArray⟩] w (RDecPost w (decR S)) := by
  have UF := Lib.hid (Rd.runframe_any w S hS)
  have HPL : Hid ((Rd.unP S).length ≤ 140737488355328) := Lib.hid (Nat.le_trans (unP_le S) hS)
  have HUU : Hid (Rd.unC S = 0 ∨ Rd.unC S = 4) := Lib.hid (by
    unfold Rd.unC
    split
    · exact .inl rfl
    · exact .inr rfl)
  have HTB : Hid (∀ W, Below w.heap.size w W → Nm.Tabs W) := Lib.hid (fun W hw => hT.below hw)
  clear hS hT
  go_enter Tryz.func8, Tryz.ntmps8
  go_wp2_with fail
  refine UF.out.mono ?_
  rintro e w1 ⟨rfl, hb1⟩
  have HB1 := Lib.hid hb1
  clear hb1 UF
  obtain ⟨uc, huc⟩ : ∃ uc, uc = Rd.unC S := ⟨_, rfl⟩
  obtain ⟨ur, hur⟩ : ∃ ur, ur = Rd.unR S := ⟨_, rfl⟩
  rw [← huc, ← hur]
  have HUC0 := Lib.hid huc; have HUR0 := Lib.hid hur
  clear huc hur
  by_cases h0 : uc = 0
  · subst h0
    by_cases hr : ur = []
    · subst hr
      obtain ⟨w2, hw2⟩ : ∃ w2, w2 = w1.alloc (.cells #[.string ⟨(Rd.unP S).toArray⟩] Rd.RRdT) := ⟨_, rfl⟩
      have HRD : Hid (Rd.RReaderAt w2 w1.heap.size (Rd.unP S)) := Lib.hid (by rw [hw2]; exact (MapKept.heap_alloc w1 _).1)
      have HB2 : Hid (Below w.heap.size w w2) := Lib.hid (by rw [hw2]; exact HB1.out.alloc HB1.out.size _)
      have HW2 := Lib.hid hw2
      have HS2 : Hid (w2.heap.size = w1.heap.size + 1) := Lib.hid (by rw [hw2, one_size])
      obtain ⟨q, hq⟩ : ∃ q, q = w1.heap.size := ⟨_, rfl⟩
      have HQ : Hid (w.heap.size ≤ q) := Lib.hid (by rw [hq]; exact HB1.out.size)
      have HQ1 := Lib.hid hq
      rw [← hq] at HRD HS2
      have UI := Lib.hid (Rd.ruint_any w2 q (Rd.unP S) HPL.out HRD.out)
      clear hw2 hq
      unfold ptr at *
      go_wp2_with fail
      rw [← HW2.out, ← HQ1.out]
      refine UI.out.mono ?_
      rintro e w3 ⟨rfl, hr3, t3⟩
      have HR3 := Lib.hid hr3
      have HB3 : Hid (Below w.heap.size w w3) := Lib.hid (HB2.out.trans (t3.below (by simpa using HQ.out) HB2.out.size))
      have HS3 : Hid (q + 1 ≤ w3.heap.size) := Lib.hid (by have := HS2.out; have := t3.size; omega)
      clear hr3 t3 UI
      obtain ⟨fc, hfc⟩ : ∃ fc, fc = Rd.shE (Rd.unP S) := ⟨_, rfl⟩
      have HFC : Hid (fc = if (rd0 (Rd.unP S)).isSome then 0 else 4) := Lib.hid (by rw [hfc, Rd.shE])
      obtain ⟨n, hn⟩ : ∃ n, n = Rd.shN (Rd.unP S) := ⟨_, rfl⟩
      have HNL : Hid (n < 18446744073709551616) := Lib.hid (by rw [hn]; exact Rd.shN_lt _)
      have HNN := Lib.hid hn
      rw [← hfc, ← hn]
      clear hfc hn
      cases hs : (rd0 (Rd.unP S)).isSome with
      | false =>
        have hf : fc = 4 := by rw [HFC.out, hs]; rfl
        subst hf
        have HDN : Hid (decR S = none) := Lib.hid (decR_no (fun h => by have := h.2.2.1; rw [hs] at this; cases this))
        clear hs
        go_wp2
        go_ret2
        refine ⟨HB3.out, ?_⟩
        rw [HDN.out]
        exact rfl
      | true =>
        have hf : fc = 0 := by rw [HFC.out, hs]; rfl
        subst hf
        by_cases hbig : 64 < n
        · have hb2 : (64 : Int) < (n : Int) := by omega
          have HDN : Hid (decR S = none) := Lib.hid (decR_no (fun h => by have := h.2.2.2; rw [← HNN.out] at this; omega))
          clear hs hbig
          go_wp2
          go_ret2
          refine ⟨HB3.out, ?_⟩
          rw [HDN.out]
          exact rfl
        · have hb2 : ¬ (64 : Int) < (n : Int) := by omega
          have hbd : decide ((64 : Int) < (n : Int)) = false := by simp; omega
          have HN64 : Hid (n ≤ 64) := Lib.hid (by omega)
          obtain ⟨T, hTT⟩ : ∃ T, T = goB fR n (Rd.shR (Rd.unP S)) [] [] := ⟨_, rfl⟩
          have HD : Hid (decR S = T.bind fun p => if encodeB p.2 = S then some p.2 else none) := Lib.hid (by
            rw [decR, if_pos ⟨HUC0.out.symm, HUR0.out.symm, hs, by rw [← HNN.out]; exact HN64.out⟩, hTT, ← HNN.out])
          obtain ⟨w4, hw4⟩ : ∃ w4, w4 = w3.alloc (.cells #[.slice none 0 0] RbT) := ⟨_, rfl⟩
          have HW4 := Lib.hid hw4
          obtain ⟨r, hr⟩ : ∃ r, r = w3.heap.size := ⟨_, rfl⟩
          have HRR := Lib.hid hr
          have HST : Hid (RcSt w q r w4 (Rd.shR (Rd.unP S)) (.slice none 0 0) [] []) := Lib.hid ⟨by
              have hql := lt_of_heap HR3.out
              rw [hw4]; exact ((Below.refl _ _).alloc (Nat.le_refl _) _).block _ hql |>.trans HR3.out, ⟨by rw [hw4, hr]; exact (MapKept.heap_alloc w3 _).1, ⟨by rfl, .inl ⟨rfl, rfl⟩⟩, (fun p hp => nomatch hp), (fun hc => by simp [ob, Value.ownBlock] at hc), (fun hc => nomatch hc), (fun x _ hc => nomatch hc), by rw [hr]; exact HS3.out, List.Pairwise.nil⟩,
            by rw [hw4]; exact HB3.out.alloc HB3.out.size _, HQ.out, rfl, okb_nil, Nat.le_trans (Rd.shR_le' _) HPL.out⟩
          have HT5 : Hid (goB fR n (Rd.shR (Rd.unP S)) [] [] = T) := Lib.hid hTT.symm
          clear hs hbig hTT hw4 hr
          go_upto_block 0 with (fail)
          rw [← HW4.out, ← HRR.out]
          refine dr_b0 (T := T) (l0 := []) _ _ _ _ _ _ _ _ _ _ _ _ _ _ _ _ _ _ _ _ _ _ _ _ _ _ _ _ _ _ _ _ _ _ _ _ _ _ _ _ _ _ _ _ _ _ _ _ _ _ _ _ _ _ _ _ _ _ _ _ _ _ _ _ _ _ _ _ _ _ _ _ _ _ _ _ _ _ _ _ _ _ _ _ _ _ _ _ _ _ _ _ _ _ _ _ _ _ _ _ _ _ _ _ _ _ _ _ _ _ _ _ _ _ _ _ _ _ _ _ _ _ (by intro c a a_ w hd h; have h2 : a.defers = [] ∧ _ := h; exact And.intro (hd.symm.trans h2.1) h2.2) HN64.out HTB HST HT5 ?_ ?_
          · intro hnn t10 t11 t12 t13 t14 t15 t16 t17 t18 t19 t20 t49 t50 t51 t52 t53 t54 t55 t56 t57 t58 t59 t60 t61 t62 t63 t64 t65 t66 t67 t68 t69 t70 t71 t72 t73 t74 t75 t76 t77 t78 t79 t80 t81 t82 t83 t84 t85 t86 t87 t88 t89 t90 t91 t92 t93 t94 t95 t96 t97 t98 t99 t100 t101 t102 t103 t104 t105 t106 t107 t108 t109 t110 t111 t112 t113 t114 t115 t116 t117 t118 t119 t120 wz hbz
            have HDN : Hid (decR S = none) := Lib.hid (by rw [HD.out, hnn]; rfl)
            have HBZ := Lib.hid hbz
            clear hnn hbz
            go_ret2
            refine ⟨HBZ.out, ?_⟩
            rw [HDN.out]
            exact rfl
          · intro t2 t3 t10 t11 t12 t13 t14 t15 t16 t17 t18 t19 t20 t49 t50 t51 t52 t53 t54 t55 t56 t57 t58 t59 t60 t61 t62 t63 t64 t65 t66 t67 t68 t69 t70 t71 t72 t73 t74 t75 t76 t77 t78 t79 t80 t81 t82 t83 t84 t85 t86 t87 t88 t89 t90 t91 t92 t93 t94 t95 t96 t97 t98 t99 t100 t101 t102 t103 t104 t105 t106 t107 t108 t109 t110 t111 t112 t113 t114 t115 t116 t117 t118 t119 t120 wz hz
            obtain ⟨Lz, vz, Zz, Kz, hsz, htz⟩ := hz
            have HSZ := Lib.hid hsz
            have HD2 : Hid (decR S = if encodeB Kz = S then some Kz else none) := Lib.hid (by rw [HD.out, htz]; rfl)
            have EN := Lib.hid (rencode_any (q + 1) wz r vz Zz (by rw [hsz.pl]; exact hsz.kk) hsz.bk)
            rw [hsz.pl] at EN
            clear hsz htz
            obtain ⟨E, hE⟩ : ∃ E, E = encodeB Kz := ⟨_, rfl⟩
            rw [← hE] at EN HD2
            have HEE := Lib.hid hE
            clear hE
            unfold ptr at *
            go_wp2_with fail
            refine EN.out.mono ?_
            rintro e wy ⟨rfl, hby⟩
            have HBY := Lib.hid (HSZ.out.be.trans (hby.mono HSZ.out.be.size))
            have HSY := Lib.hid (HSZ.out.below hby)
            clear hby EN
            by_cases hes : E = S
            · have HDS : Hid (decR S = some Kz) := Lib.hid (by rw [HD2.out, if_pos hes])
              subst hes
              go_wp2
              go_ret2
              refine ⟨HBY.out, ?_⟩
              rw [HDS.out]
              exact ⟨r, vz, Zz, rfl, HSY.out.bk.mono (by have := HQ.out; omega), HSY.out.pl, HSY.out.kk⟩
            · have HDN : Hid (decR S = none) := Lib.hid (by rw [HD2.out, if_neg hes])
              have hesb : (E == S) = false := by simpa using hes
              go_wp2
              go_ret2
              refine ⟨HBY.out, ?_⟩
              rw [HDN.out]
              exact rfl
    · have HDN : Hid (decR S = none) := Lib.hid (decR_no (fun h => hr (HUR0.out.trans h.2.1)))
      have hre : ur.isEmpty = false := by cases ur with
        | nil => exact absurd rfl hr
        | cons y r => rfl
      clear hr
      go_wp2
      go_ret2
      refine ⟨HB1.out, ?_⟩
      rw [HDN.out]
      exact rfl
  · have HDN : Hid (decR S = none) := Lib.hid (decR_no (fun h => h0 (HUC0.out.trans h.1)))
    have h4 : uc = 4 := by
      rcases HUU.out with h | h
      · exact absurd (HUC0.out.trans h) h0
      · exact HUC0.out.trans h
    subst h4
    clear h0
    go_wp2
    go_ret2
    refine ⟨HB1.out, ?_⟩
    rw [HDN.out]
    exact rfl
end Go.Proofs.YtkeegnhjemhblaaGreatDoor.Rb
/-
  What both readings say of bytes is the same: the plain law.
-/
namespace Go.Proofs.YtkeegnhjemhblaaGreatDoor.Rb
open Go.RowKit Go.Proofs.YtkeegnhjemhblaaGreatDoor.Rf Go.Proofs.YtkeegnhjemhblaaGreatDoor.Rd

theorem rdq_back : ∀ (s : List UInt8) (f i n m k : Nat), f + i = 9 → Rf.rd i n s = some (m, k) → ∃ d, m = n + d * 128 ^ i ∧ (0 < i → 0 < d) ∧ i < k ∧ s = shF f d ++ s.drop (k - i)
  | [], _, _, _, _, _, _, h => by simp [Rf.rd] at h
  | b :: r, f, i, n, m, k, hi, h => by
    have hb := UInt8.toNat_lt b
    have eb : UInt8.ofNat b.toNat = b := by simp
    simp only [Rf.rd] at h
    split at h
    · cases h
    split at h
    · cases h
    next hno =>
    split at h
    · next hs =>
      obtain ⟨rfl, rfl⟩ := Prod.mk.inj (Option.some.inj h)
      refine ⟨b.toNat, rfl, fun _ => by omega, by omega, ?_⟩
      rw [shF_small hs, eb, Nat.add_sub_cancel_left]
      rfl
    · next hs =>
      obtain ⟨f', rfl⟩ : ∃ f', f = f' + 1 := ⟨f - 1, by omega⟩
      obtain ⟨d, h1, h2, h3, h4⟩ := rdq_back r f' (i + 1) _ m k (by omega) h
      have hd := h2 (by omega)
      refine ⟨(b.toNat - 128) + 128 * d, ?_, fun _ => by omega, by omega, ?_⟩
      · rw [h1, Nat.pow_succ, Nat.add_mul, Nat.add_assoc]
        congr 2
        rw [Nat.mul_comm 128 d, Nat.mul_assoc, Nat.mul_comm 128 (128 ^ i)]
      · rw [shF_step (by omega), show ((b.toNat - 128) + 128 * d) % 128 + 128 = b.toNat by omega, eb, show ((b.toNat - 128) + 128 * d) / 128 = d by omega,
          show k - i = (k - (i + 1)) + 1 by omega, List.drop_succ_cons, List.cons_append, ← h4]
theorem rdq0_back {s : List UInt8} {n k : Nat} (h : rd0 s = some (n, k)) : s = sh n ++ s.drop k := by
  obtain ⟨d, h1, _, _, h4⟩ := rdq_back s 9 0 0 n k (by omega) h
  rw [Nat.pow_zero, Nat.mul_one, Nat.zero_add] at h1
  subst h1
  exact h4
/-! ### reading without adding -/
def pE : Nat → List UInt8 → Option (List En × List UInt8)
  | 0, R => some ([], R)
  | m + 1, R =>
    if 32 ≤ R.length ∧ (rd0 (tkR 32 R)).isSome = true ∧ shN (tkR 32 R) ≤ 1099511627776
    then (pE m (shR (tkR 32 R))).map fun p => (⟨tkT 32 R, (shN (tkR 32 R) : Int)⟩ :: p.1, p.2) else none
def addL (k : List UInt8) : List En → BK → Option BK
  | [], K => some K
  | e :: r, K => if (addB K k e).1 = 0 then addL k r (addB K k e).2 else none
theorem goE_split (k : List UInt8) : ∀ (m : Nat) (R : List UInt8) (K : BK), goE k m R K = (pE m R).bind fun p => (addL k p.1 K).map fun K' => (p.2, K')
  | 0, R, K => rfl
  | m + 1, R, K => by
    rw [goE, pE]
    by_cases h : 32 ≤ R.length ∧ (rd0 (tkR 32 R)).isSome = true ∧ shN (tkR 32 R) ≤ 1099511627776
    · rw [if_pos h]
      by_cases hz : (addB K k ⟨tkT 32 R, (shN (tkR 32 R) : Int)⟩).1 = 0
      · rw [if_pos ⟨h.1, h.2.1, h.2.2, hz⟩, goE_split k m]
        cases hp : pE m (shR (tkR 32 R)) with
        | none => rfl
        | some p => simp only [Option.bind_some, Option.map_some, addL, if_pos hz]
      · rw [if_neg (fun hh => hz hh.2.2.2)]
        cases hp : pE m (shR (tkR 32 R)) with
        | none => rfl
        | some p => simp only [Option.map_some, Option.bind_some, addL, if_neg hz, Option.map_none]
    · rw [if_neg (fun hh => h ⟨hh.1, hh.2.1, hh.2.2.1⟩), if_neg h]; rfl
abbrev KE := List UInt8 × List En
def pB : Nat → List UInt8 → Option (List KE × List UInt8)
  | 0, R => some ([], R)
  | n + 1, R =>
    if (txt 255 R).isSome = true ∧ (rd0 (txR 255 R)).isSome = true ∧ shN (txR 255 R) ≤ 4096 ∧ 0 < shN (txR 255 R)
    then (pE (shN (txR 255 R)) (shR (txR 255 R))).bind fun p => (pB n p.2).map fun q => ((txT 255 R, p.1) :: q.1, q.2) else none
def addA (f : List UInt8 → List UInt8 → BK → Bool) : List KE → List UInt8 → BK → Option BK
  | [], _, K => some K
  | x :: r, last, K => if f last x.1 K = true then (addL x.1 x.2 K).bind fun K' => addA f r x.1 K' else none
theorem goB_split (f : List UInt8 → List UInt8 → BK → Bool) : ∀ (n : Nat) (R last : List UInt8) (K : BK), goB f n R last K = (pB n R).bind fun p => (addA f p.1 last K).map fun K' => (p.2, K')
  | 0, R, last, K => rfl
  | n + 1, R, last, K => by
    rw [goB, pB]
    by_cases h : (txt 255 R).isSome = true ∧ (rd0 (txR 255 R)).isSome = true ∧ shN (txR 255 R) ≤ 4096 ∧ 0 < shN (txR 255 R)
    · rw [if_pos h]
      by_cases hf : f last (txT 255 R) K = true
      · rw [if_pos ⟨h.1, h.2.1, h.2.2.1, h.2.2.2, hf⟩, goE_split]
        cases hp : pE (shN (txR 255 R)) (shR (txR 255 R)) with
        | none => rfl
        | some p =>
          simp only [Option.bind_some]
          cases ha : addL (txT 255 R) p.1 K with
          | none =>
            simp only [Option.map_none, Option.bind_none]
            cases hq : pB n p.2 with
            | none => rfl
            | some q => simp only [Option.map_some, Option.bind_some, addA, if_pos hf, ha, Option.bind_none, Option.map_none]
          | some K2 =>
            simp only [Option.map_some, Option.bind_some]
            rw [goB_split f n]
            cases hq : pB n p.2 with
            | none => rfl
            | some q => simp only [Option.map_some, Option.bind_some, addA, if_pos hf, ha]
      · rw [if_neg (fun hh => hf hh.2.2.2.2)]
        cases hp : pE (shN (txR 255 R)) (shR (txR 255 R)) with
        | none => rfl
        | some p =>
          simp only [Option.bind_some]
          cases hq : pB n p.2 with
          | none => rfl
          | some q => simp only [Option.map_some, Option.bind_some, addA, if_neg hf, Option.map_none]
    · rw [if_neg (fun hh => h ⟨hh.1, hh.2.1, hh.2.2.1, hh.2.2.2.1⟩), if_neg h]; rfl
/-! ### back and forth -/
def OkE (e : En) : Prop := e.c.length = 32 ∧ 0 ≤ e.t ∧ e.t ≤ 1099511627776
def OkKE (x : KE) : Prop := x.1.length ≤ 255 ∧ x.2 ≠ [] ∧ x.2.length ≤ 4096 ∧ ∀ e ∈ x.2, OkE e
def encKE (x : KE) : List UInt8 := putText x.1 ++ sh x.2.length ++ encL x.2
theorem num_backQ {R : List UInt8} (h : (rd0 R).isSome = true) : R = sh (shN R) ++ shR R := by
  obtain ⟨p, hp⟩ := Option.isSome_iff_exists.1 h
  have := rdq0_back (n := p.1) (k := p.2) hp
  rw [shN, shR, hp]; exact this
theorem shN_shQ {n : Nat} (h : n < 2 ^ 64) (r : List UInt8) : (rd0 (sh n ++ r)).isSome = true ∧ shN (sh n ++ r) = n ∧ shR (sh n ++ r) = r := by
  rw [shN, shR, rd_sh h]; exact ⟨rfl, rfl, by simp⟩
theorem encL_cons (e : En) (r : List En) : encL (e :: r) = encE e ++ encL r := List.flatMap_cons
theorem pE_back : ∀ (m : Nat) (R : List UInt8) {es R'}, pE m R = some (es, R') → R = encL es ++ R' ∧ es.length = m ∧ ∀ e ∈ es, OkE e
  | 0, R, es, R', h => by
    injection h with h; injection h with h1 h2; subst h1 h2
    exact ⟨rfl, rfl, fun _ h => nomatch h⟩
  | m + 1, R, es, R', h => by
    rw [pE] at h
    split at h
    · next hc =>
      obtain ⟨q, hp, he⟩ := Option.map_eq_some_iff.1 h
      have he' : ((⟨tkT 32 R, (shN (tkR 32 R) : Int)⟩ : En) :: q.1, q.2) = (es, R') := he
      obtain ⟨h1, h2⟩ := Prod.mk.inj he'
      subst h1 h2
      obtain ⟨a1, a2, a3⟩ := pE_back m _ (es := q.1) (R' := q.2) hp
      have e1 : R = tkT 32 R ++ tkR 32 R := by rw [tkT, tkR, if_pos hc.1, if_pos hc.1, List.take_append_drop]
      have e2 := num_backQ hc.2.1
      have hl : (tkT 32 R).length = 32 := by rw [tkT, if_pos hc.1, List.length_take]; omega
      refine ⟨?_, by rw [List.length_cons, a2], fun e he => ?_⟩
      · have e3 : encL ((⟨tkT 32 R, (shN (tkR 32 R) : Int)⟩ : En) :: q.1) = (tkT 32 R ++ sh (shN (tkR 32 R))) ++ encL q.1 := encL_cons _ _
        rw [e3, List.append_assoc, List.append_assoc, ← a1, ← e2, ← e1]
      · rcases List.mem_cons.1 he with rfl | he
        · exact ⟨hl, by show (0 : Int) ≤ (shN (tkR 32 R) : Int); omega, by show (shN (tkR 32 R) : Int) ≤ _; have := hc.2.2; omega⟩
        · exact a3 e he
    · cases h
theorem pE_forth : ∀ (es : List En) (R : List UInt8), (∀ e ∈ es, OkE e) → pE es.length (encL es ++ R) = some (es, R)
  | [], R, _ => rfl
  | e :: r, R, h => by
    obtain ⟨h1, h2, h3⟩ := h e (List.mem_cons_self ..)
    have e0 : encL (e :: r) ++ R = e.c ++ (sh e.t.toNat ++ (encL r ++ R)) := by rw [encL_cons, encE]; simp only [List.append_assoc]
    have hl : 32 ≤ (encL (e :: r) ++ R).length := by rw [e0, List.length_append, h1]; omega
    have hT : tkT 32 (encL (e :: r) ++ R) = e.c := by rw [tkT, if_pos hl, e0, List.take_left' h1]
    have hR : tkR 32 (encL (e :: r) ++ R) = sh e.t.toNat ++ (encL r ++ R) := by rw [tkR, if_pos hl, e0, List.drop_left' h1]
    have ht : e.t.toNat ≤ 1099511627776 := by omega
    obtain ⟨s1, s2, s3⟩ := shN_shQ (n := e.t.toNat) (Nat.lt_of_le_of_lt ht (by decide)) (encL r ++ R)
    rw [List.length_cons, pE, hT, hR, if_pos ⟨hl, s1, by rw [s2]; exact ht⟩, s2, s3, pE_forth r R (fun x hx => h x (List.mem_cons_of_mem _ hx))]
    have : (⟨e.c, ((e.t.toNat : Nat) : Int)⟩ : En) = e := by
      cases e with
      | mk c t =>
        have : ((t.toNat : Nat) : Int) = t := Int.toNat_of_nonneg h2
        simp only [this]
    rw [Option.map_some, this]
theorem txt_backQ {R : List UInt8} (h : (txt 255 R).isSome = true) : R = putText (txT 255 R) ++ txR 255 R ∧ (txT 255 R).length ≤ 255 := by
  obtain ⟨p, hp⟩ := Option.isSome_iff_exists.1 h
  rw [txT, txR, hp]
  rw [txt] at hp
  split at hp
  · cases hp
  · next q hq =>
    split at hp
    · next hc =>
      injection hp with hp; subst hp
      have := rdq0_back (n := q.1) (k := q.2) hq
      have hl : ((R.drop q.2).take q.1).length = q.1 := by rw [List.length_take, List.length_drop]; omega
      refine ⟨?_, by rw [hl]; exact hc.1⟩
      rw [putText, hl, List.append_assoc, List.take_append_drop]
      exact this
    · cases hp
theorem txt_forthQ {k : List UInt8} (hk : k.length ≤ 255) (r : List UInt8) : (txt 255 (putText k ++ r)).isSome = true ∧ txT 255 (putText k ++ r) = k ∧ txR 255 (putText k ++ r) = r := by
  have h : txt 255 (putText k ++ r) = some (k, r) := by
    have h1 : rd0 (putText k ++ r) = some (k.length, (sh k.length).length) := by rw [putText, List.append_assoc]; exact rd_sh (Nat.lt_of_le_of_lt hk (by decide)) _
    have h2 : (putText k ++ r).drop (sh k.length).length = k ++ r := by rw [putText, List.append_assoc, List.drop_left]
    rw [txt, h1]
    dsimp only
    have hc : k.length ≤ (putText k ++ r).length - (sh k.length).length := by rw [putText]; simp only [List.length_append]; omega
    rw [h2, List.take_left, List.drop_left, if_pos ⟨hk, hc⟩]
  rw [txT, txR, h]; exact ⟨rfl, rfl, rfl⟩
theorem pB_back : ∀ (n : Nat) (R : List UInt8) {L R'}, pB n R = some (L, R') → R = L.flatMap encKE ++ R' ∧ L.length = n ∧ ∀ x ∈ L, OkKE x
  | 0, R, L, R', h => by
    injection h with h; injection h with h1 h2; subst h1 h2
    exact ⟨rfl, rfl, fun _ h => nomatch h⟩
  | n + 1, R, L, R', h => by
    rw [pB] at h
    split at h
    · next hc =>
      obtain ⟨p, hp, h⟩ := Option.bind_eq_some_iff.1 h
      obtain ⟨q, hq, he⟩ := Option.map_eq_some_iff.1 h
      have he' : (((txT 255 R, p.1) : KE) :: q.1, q.2) = (L, R') := he
      obtain ⟨h1, h2⟩ := Prod.mk.inj he'
      subst h1 h2
      obtain ⟨a1, a2, a3⟩ := pE_back _ _ (es := p.1) (R' := p.2) hp
      obtain ⟨b1, b2, b3⟩ := pB_back n _ (L := q.1) (R' := q.2) hq
      obtain ⟨t1, t2⟩ := txt_backQ hc.1
      have e2 := num_backQ hc.2.1
      refine ⟨?_, by rw [List.length_cons, b2], fun x hx => ?_⟩
      · have e3 : List.flatMap encKE (((txT 255 R, p.1) : KE) :: q.1) = ((putText (txT 255 R) ++ sh p.1.length) ++ encL p.1) ++ q.1.flatMap encKE := List.flatMap_cons
        rw [e3, a2, List.append_assoc, List.append_assoc, List.append_assoc, ← b1, ← a1, ← e2, ← t1]
      · rcases List.mem_cons.1 hx with rfl | hx
        · refine ⟨t2, fun hn => ?_, by rw [a2]; exact hc.2.2.1, a3⟩
          have hn' : p.1 = [] := hn
          rw [hn'] at a2
          have := hc.2.2.2
          rw [← a2] at this
          exact Nat.lt_irrefl _ this
        · exact b3 x hx
    · cases h
theorem pB_forth : ∀ (L : List KE) (R : List UInt8), (∀ x ∈ L, OkKE x) → pB L.length (L.flatMap encKE ++ R) = some (L, R)
  | [], R, _ => rfl
  | x :: r, R, h => by
    obtain ⟨h1, h2, h3, h4⟩ := h x (List.mem_cons_self ..)
    have e0 : (x :: r).flatMap encKE ++ R = putText x.1 ++ (sh x.2.length ++ (encL x.2 ++ (r.flatMap encKE ++ R))) := by rw [List.flatMap_cons, encKE]; simp only [List.append_assoc]
    obtain ⟨t1, t2, t3⟩ := txt_forthQ h1 (sh x.2.length ++ (encL x.2 ++ (r.flatMap encKE ++ R)))
    obtain ⟨s1, s2, s3⟩ := shN_shQ (n := x.2.length) (Nat.lt_of_le_of_lt h3 (by decide)) (encL x.2 ++ (r.flatMap encKE ++ R))
    have hp : 0 < x.2.length := List.length_pos_iff.2 h2
    rw [List.length_cons, e0, pB, t2, t3, if_pos ⟨t1, s1, by rw [s2]; exact h3, by rw [s2]; exact hp⟩, s2, s3, pE_forth _ _ h4, Option.bind_some, pB_forth r R (fun y hy => h y (List.mem_cons_of_mem _ hy))]
    rfl
/-! ### the books that come of it -/
theorem lt_nil (k : List UInt8) : lt k [] = false := by rw [← lt_less]; cases k <;> rfl
theorem nil_lt {k : List UInt8} (h : k ≠ []) : lt [] k = true := by
  rcases lt_tot (Ne.symm h) with h1 | h1
  · exact h1
  · rw [lt_nil] at h1; cases h1
theorem chk_nil {k : List UInt8} (h : Nm.chk k = true) : k ≠ [] := by
  rintro rfl
  simp [Nm.chk, Nm.lenFine] at h
  exact absurd h.1.1.2 (by first | decide | simp [Nm.count])
theorem ins_end {k : List UInt8} {l : List En} : ∀ {K : BK}, (∀ q ∈ K, lt q.1 k = true) → insM k l K = K ++ [(k, l)]
  | [], _ => rfl
  | y :: r, h => by
    rw [insM, if_neg (by rw [lt_asym (h y (List.mem_cons_self ..))]; decide), ins_end (fun q hq => h q (List.mem_cons_of_mem _ hq))]; rfl
theorem ne_of_lt' {a b : List UInt8} (h : lt a b = true) : a ≠ b := fun e => by rw [e, lt_irr] at h; cases h
theorem putM_end {K : BK} {k : List UInt8} {l : List En} (h : ∀ q ∈ K, lt q.1 k = true) : putM K k l = K ++ [(k, l)] := by
  rw [putM, del_none (fun q hq => ne_of_lt' (h q hq)), ins_end h]
theorem putM_last {K : BK} {k : List UInt8} {l l' : List En} (h : ∀ q ∈ K, lt q.1 k = true) : putM (K ++ [(k, l)]) k l' = K ++ [(k, l')] := by
  have e : delM (K ++ [(k, l)]) k = K := by
    have e1 := del_none (fun q hq => ne_of_lt' (h q hq))
    rw [delM] at e1
    rw [delM, List.filter_append, e1]; simp
  rw [putM, e, ins_end h]
theorem getM_last {K : BK} {k : List UInt8} {l : List En} (h : ∀ q ∈ K, lt q.1 k = true) : getM (K ++ [(k, l)]) k = some l := by
  have e : K.find? (fun p => p.1 == k) = none := List.find?_eq_none.2 (fun q hq => by simpa using ne_of_lt' (h q hq))
  rw [getM, List.find?_append, e]; simp
theorem addB_old {K : BK} {k : List UInt8} {e : En} {l : List En} (hg : getM K k = some l) (h : (addB K k e).1 = 0) : (addB K k e).2 = putM K k (l ++ [e]) := by
  revert h
  unfold addB
  simp only [hg]
  repeat' split
  all_goals simp
theorem addB_new {K : BK} {k : List UInt8} {e : En} (hg : getM K k = none) (h : (addB K k e).1 = 0) : (addB K k e).2 = putM K k [e] := by
  revert h
  unfold addB
  simp only [hg]
  repeat' split
  all_goals simp
theorem addB_chk {K : BK} {k : List UInt8} {e : En} (h : (addB K k e).1 = 0) : Nm.chk k = true := by
  cases hc : Nm.chk k with
  | true => rfl
  | false =>
    rw [addB, if_pos hc] at h
    exact absurd (show (10 : Int) = 0 from h) (by decide)
theorem addB_srt {K : BK} (hs : SrtM K) (k : List UInt8) (e : En) : SrtM (addB K k e).2 := by
  unfold addB
  repeat' split
  all_goals first | exact hs | exact put_srt hs _ _
theorem addL_last {k : List UInt8} : ∀ (es : List En) {K K' : BK} {l : List En}, (∀ q ∈ K, lt q.1 k = true) → addL k es (K ++ [(k, l)]) = some K' → K' = K ++ [(k, l ++ es)]
  | [], K, K', l, _, h => by
    injection h with h
    rw [← h, List.append_nil]
  | e :: r, K, K', l, hk, h => by
    rw [addL] at h
    split at h
    · next h0 =>
      rw [addB_old (getM_last hk) h0, putM_last hk] at h
      rw [addL_last r hk h, List.append_assoc]; rfl
    · cases h
theorem addL_new {k : List UInt8} {es : List En} {K K' : BK} (hn : es ≠ []) (hk : ∀ q ∈ K, lt q.1 k = true) (h : addL k es K = some K') : K' = K ++ [(k, es)] := by
  cases es with
  | nil => exact absurd rfl hn
  | cons e r =>
    rw [addL] at h
    split at h
    · next h0 =>
      rw [addB_new (get_none_iff.2 fun q hq => ne_of_lt' (hk q hq)) h0, putM_end hk] at h
      exact addL_last r hk h
    · cases h
theorem addL_chk {k : List UInt8} {es : List En} {K K' : BK} (hn : es ≠ []) (h : addL k es K = some K') : k ≠ [] := by
  cases es with
  | nil => exact absurd rfl hn
  | cons e r =>
    rw [addL] at h
    split at h
    · next h0 => exact chk_nil (addB_chk h0)
    · cases h
theorem addL_srt {k : List UInt8} : ∀ (es : List En) {K K' : BK}, SrtM K → addL k es K = some K' → SrtM K'
  | [], K, K', hs, h => by injection h with h; rw [← h]; exact hs
  | e :: r, K, K', hs, h => by
    rw [addL] at h
    split at h
    · exact addL_srt r (addB_srt hs k e) h
    · cases h
theorem addL_ok {k : List UInt8} : ∀ (es : List En) {K K' : BK}, OkB K → (∀ e ∈ es, OkE e) → addL k es K = some K' → OkB K'
  | [], K, K', ok, _, h => by injection h with h; rw [← h]; exact ok
  | e :: r, K, K', ok, he, h => by
    rw [addL] at h
    split at h
    · exact addL_ok r (add_ok ok k e (he e (List.mem_cons_self ..)).1) (fun x hx => he x (List.mem_cons_of_mem _ hx)) h
    · cases h
theorem addA_cons {f : List UInt8 → List UInt8 → BK → Bool} {x : KE} {r : List KE} {last : List UInt8} {K K' : BK} (h : addA f (x :: r) last K = some K') :
    f last x.1 K = true ∧ ∃ K2, addL x.1 x.2 K = some K2 ∧ addA f r x.1 K2 = some K' := by
  rw [addA] at h
  split at h
  · next hf =>
    obtain ⟨K2, h1, h2⟩ := Option.bind_eq_some_iff.1 h
    exact ⟨hf, K2, h1, h2⟩
  · cases h
theorem addA_mk {f : List UInt8 → List UInt8 → BK → Bool} {x : KE} {r : List KE} {last : List UInt8} {K K2 : BK} {o : Option BK} (hf : f last x.1 K = true) (h1 : addL x.1 x.2 K = some K2) (h2 : addA f r x.1 K2 = o) : addA f (x :: r) last K = o := by
  rw [addA, if_pos hf, h1, Option.bind_some, h2]
theorem addA_srt {f : List UInt8 → List UInt8 → BK → Bool} : ∀ (L : List KE) {last : List UInt8} {K K' : BK}, SrtM K → addA f L last K = some K' → SrtM K'
  | [], _, K, K', hs, h => by injection h with h; rw [← h]; exact hs
  | x :: r, last, K, K', hs, h => by
    obtain ⟨_, K2, h1, h2⟩ := addA_cons h
    exact addA_srt r (addL_srt _ hs h1) h2
theorem addA_ok {f : List UInt8 → List UInt8 → BK → Bool} : ∀ (L : List KE) {last : List UInt8} {K K' : BK}, OkB K → (∀ x ∈ L, OkKE x) → addA f L last K = some K' → OkB K'
  | [], _, K, K', ok, _, h => by injection h with h; rw [← h]; exact ok
  | x :: r, last, K, K', ok, hL, h => by
    obtain ⟨_, K2, h1, h2⟩ := addA_cons h
    exact addA_ok r (addL_ok _ ok (hL x (List.mem_cons_self ..)).2.2.2 h1) (fun y hy => hL y (List.mem_cons_of_mem _ hy)) h2
theorem addA_P : ∀ (L : List KE) {last : List UInt8} {K K' : BK}, (∀ x ∈ L, OkKE x) → (∀ q ∈ K, q.1 = last ∨ lt q.1 last = true) → addA fP L last K = some K' → K' = K ++ L ∧ addA fR L last K = some K'
  | [], _, K, K', _, _, h => by
    have h' : some K = some K' := h
    injection h' with h'; rw [← h']; exact ⟨(List.append_nil _).symm, rfl⟩
  | x :: r, last, K, K', hL, hK, h => by
    obtain ⟨hf, K2, h1, h2⟩ := addA_cons h
    have hf' : lt last x.1 = true := hf
    have hk : ∀ q ∈ K, lt q.1 x.1 = true := fun q hq => by
      rcases hK q hq with e | e
      · rw [e]; exact hf'
      · exact lt_tr e hf'
    have e2 := addL_new (hL x (List.mem_cons_self ..)).2.1 hk h1
    obtain ⟨a1, a2⟩ := addA_P r (fun y hy => hL y (List.mem_cons_of_mem _ hy)) (fun q hq => by
      rw [e2] at hq
      rcases List.mem_append.1 hq with hq | hq
      · exact .inr (hk q hq)
      · rw [List.mem_singleton.1 hq]; exact .inl rfl) h2
    refine ⟨by rw [a1, e2, List.append_assoc]; rfl, addA_mk ?_ h1 a2⟩
    rw [fR, get_none_iff.2 fun q hq => ne_of_lt' (hk q hq)]; rfl
theorem addA_R : ∀ (L : List KE) {last : List UInt8} {K : BK} {o : BK}, SrtM L → (∀ x ∈ L, lt last x.1 = true) → addA fR L last K = some o → addA fP L last K = some o
  | [], _, K, o, _, _, h => h
  | x :: r, last, K, o, hs, hl, h => by
    obtain ⟨_, K2, h1, h2⟩ := addA_cons h
    obtain ⟨s1, s2⟩ := List.pairwise_cons.1 hs
    exact addA_mk (hl x (List.mem_cons_self ..)) h1 (addA_R r s2 s1 h2)
theorem addA_ne {f : List UInt8 → List UInt8 → BK → Bool} : ∀ (L : List KE) {last : List UInt8} {K K' : BK}, (∀ x ∈ L, OkKE x) → addA f L last K = some K' → ∀ x ∈ L, x.1 ≠ []
  | [], _, K, K', _, h => fun _ h => nomatch h
  | x :: r, last, K, K', hL, h => fun y hy => by
    obtain ⟨_, K2, h1, h2⟩ := addA_cons h
    rcases List.mem_cons.1 hy with rfl | hy
    · exact addL_chk (hL y (List.mem_cons_self ..)).2.1 h1
    · exact addA_ne r (fun z hz => hL z (List.mem_cons_of_mem _ hz)) h2 y hy
/-! ### the frame -/
theorem be4_un4 : ∀ {L : List UInt8}, L.length = 4 → be4 (un4 L) = L
  | [a, b, c, d], _ => by
    have ha := UInt8.toNat_lt a; have hb := UInt8.toNat_lt b; have hc := UInt8.toNat_lt c; have hd := UInt8.toNat_lt d
    have e : un4 [a, b, c, d] = ((a.toNat * 256 + b.toNat) * 256 + c.toNat) * 256 + d.toNat := by simp [un4]
    have key : ∀ {n : Nat} {u : UInt8}, n % 256 = u.toNat → UInt8.ofNat n = u := fun h => UInt8.toNat_inj.1 (by rw [UInt8.toNat_ofNat']; exact h)
    rw [be4, e, key (u := a) (by omega), key (u := b) (by omega), key (u := c) (by omega), key (u := d) (by omega)]
theorem frame_un {S p : List UInt8} (h : unfr S = some (p, [])) : S = frameN p := by
  rw [unfr] at h
  split at h
  · cases h
  next h8 =>
  split at h
  · cases h
  next _ =>
  split at h
  · cases h
  next hn =>
  split at h
  · next hc =>
    obtain ⟨hp, hr⟩ := Prod.mk.inj (Option.some.inj h)
    have hl : S.length = 8 + unI S 4 := by
      have := congrArg List.length hr
      rw [List.length_drop, List.length_nil] at this; omega
    have hpl : p.length = unI S 4 := by rw [← hp, List.length_take, List.length_drop]; omega
    have hp8 : p = S.drop 8 := by rw [← hp, List.take_of_length_le (by rw [List.length_drop]; omega)]
    have e1 : be4 (unI S 4) = S.take 4 := be4_un4 (by rw [List.length_take]; omega)
    have e2 : be4 (unI (S.drop 4) 4) = (S.drop 4).take 4 := be4_un4 (by rw [List.length_take, List.length_drop]; omega)
    have e3 : crcN p = unI (S.drop 4) 4 := by
      rw [← hc, hp, crcN, hpl, e1]; rfl
    rw [frameN, hpl, e3, e1, e2, hp8, List.append_assoc]
    have : (S.drop 4).take 4 ++ S.drop 8 = S.drop 4 := by
      have h9 : S.drop 8 = (S.drop 4).drop 4 := by rw [List.drop_drop]
      rw [h9, List.take_append_drop]
    rw [this, List.take_append_drop]
  · cases h
theorem frame_inj {p q : List UInt8} (h : frameN p = frameN q) : p = q := by
  have e : ∀ r : List UInt8, (frameN r).drop 8 = r := fun r => rfl
  rw [← e p, ← e q, h]
theorem payload_K {K : BK} (h : SrtM K) : payload K = sh K.length ++ K.flatMap encKE := by
  have := payload_eq (Z := mapM' (fun l => (Value.slice none 0 0, l)) K) ((srt_map _).2 h)
  have e : plainB (mapM' (fun l => (Value.slice none 0 0, l)) K) = K := by
    rw [plainB, mapM', mapM', List.map_map]
    exact List.map_id'' (fun _ => rfl) _
  rw [e] at this
  rw [this, mapM', List.length_map, List.flatMap_map]; rfl
/-! ### both readings are one -/
theorem ok_frame {S : List UInt8} (h : okH S) : S = frameN (unP S) ∧ unP S = sh (shN (unP S)) ++ shR (unP S) := by
  obtain ⟨h1, h2, h3, _⟩ := h
  refine ⟨?_, num_backQ h3⟩
  cases hu : unfr S with
  | none => rw [(un_none hu).2.2] at h1; exact absurd h1 (by decide)
  | some p =>
    obtain ⟨p, r⟩ := p
    obtain ⟨u1, u2, _⟩ := un_some hu
    rw [h2] at u2; subst u2
    rw [u1]; exact frame_un hu
theorem okb_nilQ : OkB [] := by
  constructor <;> first | exact Nat.zero_le _ | (intro p hp; cases hp)
theorem dec_same (S : List UInt8) : decP S = decR S := by
  rw [decP, decR]
  by_cases ho : okH S
  · rw [if_pos ho, if_pos ho, goB_split, goB_split]
    obtain ⟨f1, f2⟩ := ok_frame ho
    cases hp : pB (shN (unP S)) (shR (unP S)) with
    | none => rfl
    | some p =>
      obtain ⟨L, R'⟩ := p
      obtain ⟨b1, b2, b3⟩ := pB_back _ _ hp
      have back : ∀ {K : BK}, addA fR L [] [] = some K → encodeB K = S → R' = [] ∧ addA fP L [] [] = some K := fun {K} h1 h2 => by
        have hs : SrtM K := addA_srt L List.Pairwise.nil h1
        have hk : OkB K := addA_ok L okb_nilQ b3 h1
        have e1 : unP S = sh K.length ++ K.flatMap encKE := by
          rw [f1, encodeB] at h2
          rw [← frame_inj h2, payload_K hs]
        obtain ⟨_, s2, s3⟩ := shN_shQ (n := K.length) (Nat.lt_of_le_of_lt hk.size (by decide)) (K.flatMap encKE)
        rw [← e1] at s2 s3
        have hpf := pB_forth K [] (fun x hx => ⟨hk.keys x hx, hk.ne x hx, hk.len x hx, hk.ent x hx⟩)
        rw [List.append_nil, ← s2, ← s3, hp] at hpf
        obtain ⟨rfl, rfl⟩ := Prod.mk.inj (Option.some.inj hpf)
        exact ⟨rfl, addA_R L hs (fun x hx => nil_lt (addA_ne L b3 h1 x hx)) h1⟩
      have forth : ∀ {K : BK}, addA fP L [] [] = some K → R' = [] → addA fR L [] [] = some K ∧ encodeB K = S := fun {K} h1 h2 => by
        obtain ⟨a1, a2⟩ := addA_P L b3 (by intro q hq; cases hq) h1
        have hs : SrtM K := addA_srt L List.Pairwise.nil h1
        have e : K = L := a1
        refine ⟨a2, ?_⟩
        rw [encodeB, payload_K hs, e, b2]
        rw [h2, List.append_nil] at b1
        rw [← b1, ← f2, ← f1]
      show endP ((addA fP L [] []).map fun K' => (R', K')) = ((addA fR L [] []).map fun K' => (R', K')).bind fun p => if encodeB p.2 = S then some p.2 else none
      cases hR : addA fR L [] [] with
      | none =>
        cases hP : addA fP L [] [] with
        | none => rfl
        | some K =>
          cases R' with
          | nil => rw [(forth hP rfl).1] at hR; cases hR
          | cons b r => rfl
      | some K =>
        show _ = if encodeB K = S then some K else none
        by_cases he : encodeB K = S
        · obtain ⟨r1, r2⟩ := back hR he
          rw [if_pos he, r2, r1]; rfl
        · rw [if_neg he]
          cases hP : addA fP L [] [] with
          | none => rfl
          | some K2 =>
            cases R' with
            | nil =>
              obtain ⟨g1, g2⟩ := forth hP rfl
              rw [g1] at hR
              injection hR with hR
              exact absurd (hR ▸ g2) he
            | cons b r => rfl
  · rw [if_neg ho, if_neg ho]
end Go.Proofs.YtkeegnhjemhblaaGreatDoor.Rb
/-
  The contract of the reference's Tip.
-/
namespace Go.Proofs.YtkeegnhjemhblaaGreatDoor.Rb
open Go.RowKit Go.Maps Go.WideMaps Go.Proofs.YtkeegnhjemhblaaGreatDoor.Rf

set_option linter.unusedSimpArgs false in
set_option maxHeartbeats 4000000 in
set_option maxRecDepth 100000 in
theorem rtip_some (B : Nat) (w : World) (r : Nat) (v : Value) (Z : BM) (k : List UInt8) (pv : Value) (pl : List En) (el : En) (h : RBk B w r v Z) (ok : OkB (plainB Z)) (hg : getM Z k = some (pv, pl ++ [el])) :
    Calls Tryz.prog 54 #[ptr r, .string ⟨k.toArray⟩] w fun e w' => e = .returned (.tuple #[enV el, .int .i64 0]) ∧ Below w.heap.size w w' := by
  have hbx : Below w.heap.size w (w.alloc (.cells zer33 EnT)) := (Below.refl _ _).alloc (Nat.le_refl _) _
  obtain ⟨W, hW⟩ : ∃ W, W = w.alloc (.cells zer33 EnT) := ⟨_, rfl⟩
  rw [← hW] at hbx
  have hq0 : W.heap[w.heap.size]? = some (.cells zer33 EnT) := by rw [hW]; exact (MapKept.heap_alloc w _).1
  have h1 := h.below hbx
  have hn : Z.length ≤ 1000 := by have := ok.size; rw [plain_length] at this; omega
  have K := rlog_any B W r v Z k hn h1
  obtain ⟨_, ok1, ok2, ok3⟩ := ok.row hg
  obtain ⟨i, hz⟩ : ∃ i, Z[i]? = some (k, (pv, pl ++ [el])) := by
    cases ha : atN Z k with
    | none => rw [(at_none ha).1] at hg; cases hg
    | some i =>
      obtain ⟨n, hz, hg2⟩ := at_some ha
      rw [hg] at hg2
      cases hg2
      exact ⟨i, hz⟩
  have hrow := h1.each _ (List.mem_of_getElem? hz)
  dsimp only at ok1 ok2 ok3 hrow
  unfold logV at K
  rw [hg] at K
  dsimp only at K
  obtain ⟨m, hm⟩ : ∃ m, m = pl.length := ⟨_, rfl⟩
  have hln : (pl ++ [el]).length = m + 1 := by simp [hm]
  have hcl : (cellsL pl).length = 33 * m := by rw [hm]; exact cellsL_length (fun e he => (ok3 e (by simp [he])).1)
  have hel := (ok3 el (by simp)).1
  rw [hln] at hrow ok2
  have hm4 : m + 1 ≤ 4096 := ok2
  obtain ⟨gb, cap, rfl, hgb, _, hcell⟩ := rowS_form hrow (by omega)
  have hcs := cells_size hel
  have HRG : Hid (∀ w', Below W.heap.size W w' → w'.rangeAt gb (m * 33) el.cells) := Lib.hid (fun w' hb t v hv => (hb.cell (p := ⟨gb, m * 33 + t, none⟩) hgb).trans (hcell _ _ (by
    rw [cellsL, List.flatMap_append, ← cellsL, List.getElem?_append_right (by omega), hcl, show m * 33 + t - 33 * m = t by omega]
    simpa [cellsL] using hv)))
  have HI : Hid ((Tryz.prog.info? EnT).map (·.size) = some el.cells.length) := Lib.hid (by rw [hcs]; kernel_rfl)
  have HI2 : Hid ((Tryz.prog.info? EnT).map (·.size) = some el.cells.toArray.size) := Lib.hid (by rw [List.size_toArray]; exact HI.out)
  have HS2 : Hid (zer33.size = el.cells.toArray.size) := Lib.hid (by show 33 = _; rw [List.size_toArray]; exact hcs.symm)
  have HONE : Hid (el.cells.toArray.all (·.oneCell') = true) := Lib.hid (Array.all_eq_true_iff_forall_mem.2 (fun u hu => cellsL_one [el] u (by simpa [cellsL] using hu)))
  have HK := Lib.hid K; have HQ0 := Lib.hid hq0; have HBX := Lib.hid hbx; have HW := Lib.hid hW
  clear K hq0 hbx hrow hcell ok1 ok2 ok3 hcl hel hcs hm hln hg h h1 ok hW hz hn
  unfold ptr at *
  go_enter Tryz.func54, Tryz.ntmps54
  go_wp2_with fail
  change Calls _ _ _ (w.alloc (.cells zer33 EnT)) _
  rw [← HW.out]
  refine HK.out.mono ?_
  rintro e w1 ⟨rfl, hb1⟩
  have HB1 := Lib.hid hb1
  have HQ1 : Hid (w1.heap[w.heap.size]? = some (.cells zer33 EnT)) := Lib.hid ((hb1.block _ (lt_of_heap HQ0.out)).trans HQ0.out)
  have HRG1 := Lib.hid (HRG.out w1 hb1)
  obtain ⟨hq6, hb6⟩ : (w1.setRow w.heap.size el.cells.toArray).heap[w.heap.size]? = some (.cells el.cells.toArray EnT) ∧ Below w.heap.size w (w1.setRow w.heap.size el.cells.toArray) := by
    refine ⟨setRow_heap _ _ _ _ _ _ HQ1.out, (HBX.out.trans (hb1.mono HBX.out.size)).trans ⟨rfl, rfl, rfl, by simp [World.setRow], fun k hk => ?_⟩⟩
    exact setRow_other _ _ _ _ (by omega)
  have HQ6 := Lib.hid hq6; have HB6 := Lib.hid hb6
  clear hq6 hb6 HK hb1
  go_wp2_with (first
    | (refine wpList_load_mid rfl _ _ rfl gb (m * 33) rfl el.cells _ HRG1.out Tryz.underlying89 rfl HI.out ?_)
    | (refine wpList_store_row rfl _ _ _ rfl w.heap.size el.cells.toArray rfl rfl 89 zer33 HQ1.out HI2.out HS2.out HONE.out ?_))
  have hld := run_loadVar_row (P := Tryz.prog) (w1.setRow w.heap.size el.cells.toArray) w.heap.size _ 89 el.cells.toArray _ _ HQ6.out Tryz.underlying89 rfl HI2.out
  refine bodyPost_ret (v := .tuple #[enV el, .int .i64 0]) ?_ rfl ?_
  · rw [results_cell_tmp (fn := Tryz.f54) rfl]
    show ((asAddr (.pointer (some ⟨w.heap.size, 0, none⟩))).run Tryz.prog _).andThen _ = _
    simp only [asAddr, Sem.run_pure, Result.andThen_ok, hld]
    rfl
  · exact ⟨rfl, HB6.out⟩
def enZ : En := ⟨List.replicate 32 0, 0⟩
theorem enZ_cells : enZ.cells.toArray = zer33 := by kernel_rfl
set_option linter.unusedSimpArgs false in
set_option maxHeartbeats 4000000 in
set_option maxRecDepth 100000 in
theorem rtip_none (B : Nat) (w : World) (r : Nat) (v : Value) (Z : BM) (k : List UInt8) (h : RBk B w r v Z) (hn : Z.length ≤ 1000) (hg : getM Z k = none) :
    Calls Tryz.prog 54 #[ptr r, .string ⟨k.toArray⟩] w fun e w' => e = .returned (.tuple #[enV enZ, .int .i64 6]) ∧ Below w.heap.size w w' := by
  have hbx : Below w.heap.size w (w.alloc (.cells zer33 EnT)) := (Below.refl _ _).alloc (Nat.le_refl _) _
  obtain ⟨W, hW⟩ : ∃ W, W = w.alloc (.cells zer33 EnT) := ⟨_, rfl⟩
  rw [← hW] at hbx
  have hq0 : W.heap[w.heap.size]? = some (.cells zer33 EnT) := by rw [hW]; exact (MapKept.heap_alloc w _).1
  have h1 := h.below hbx
  have K := rlog_any B W r v Z k hn h1
  unfold logV at K
  rw [hg] at K
  dsimp only at K
  have HI2 : Hid ((Tryz.prog.info? EnT).map (·.size) = some zer33.size) := Lib.hid (by kernel_rfl)
  have HONE : Hid (zer33.all (·.oneCell') = true) := Lib.hid (by kernel_rfl)
  have HK := Lib.hid K; have HQ0 := Lib.hid hq0; have HBX := Lib.hid hbx; have HW := Lib.hid hW
  clear K hq0 hbx hg h h1 hW hn
  unfold ptr at *
  go_enter Tryz.func54, Tryz.ntmps54
  go_wp2_with fail
  change Calls _ _ _ (w.alloc (.cells zer33 EnT)) _
  rw [← HW.out]
  refine HK.out.mono ?_
  rintro e w1 ⟨rfl, hb1⟩
  have HQ1 : Hid (w1.heap[w.heap.size]? = some (.cells zer33 EnT)) := Lib.hid ((hb1.block _ (lt_of_heap HQ0.out)).trans HQ0.out)
  obtain ⟨hq6, hb6⟩ : (w1.setRow w.heap.size zer33).heap[w.heap.size]? = some (.cells zer33 EnT) ∧ Below w.heap.size w (w1.setRow w.heap.size zer33) := by
    refine ⟨setRow_heap _ _ _ _ _ _ HQ1.out, (HBX.out.trans (hb1.mono HBX.out.size)).trans ⟨rfl, rfl, rfl, by simp [World.setRow], fun k hk => ?_⟩⟩
    exact setRow_other _ _ _ _ (by omega)
  have HQ6 := Lib.hid hq6; have HB6 := Lib.hid hb6
  clear hq6 hb6 HK hb1
  go_wp2_with (first
    | (refine wpList_store_row rfl _ _ _ rfl w.heap.size zer33 rfl rfl 89 zer33 HQ1.out HI2.out rfl HONE.out ?_))
  have hld := run_loadVar_row (P := Tryz.prog) (w1.setRow w.heap.size zer33) w.heap.size _ 89 zer33 _ _ HQ6.out Tryz.underlying89 rfl HI2.out
  refine bodyPost_ret (v := .tuple #[enV enZ, .int .i64 6]) ?_ rfl ?_
  · rw [results_cell_tmp (fn := Tryz.f54) rfl]
    show ((asAddr (.pointer (some ⟨w.heap.size, 0, none⟩))).run Tryz.prog _).andThen _ = _
    simp only [asAddr, Sem.run_pure, Result.andThen_ok, hld]
    rw [enV, enZ_cells]
    rfl
  · exact ⟨rfl, HB6.out⟩
end Go.Proofs.YtkeegnhjemhblaaGreatDoor.Rb
/-
  The contract of a book's Tip at a branch that is not there.
-/
namespace Go.Proofs.YtkeegnhjemhblaaGreatDoor.Rf
open Go.RowKit Go.Maps Go.WideMaps Go.Proofs.YtkeegnhjemhblaaGreatDoor.Rb
variable {X : Spect}

set_option linter.unusedSimpArgs false in
set_option maxHeartbeats 4000000 in
set_option maxRecDepth 100000 in
theorem tip_none (B : Nat) (w : World) (g b : Nat) (Z : BM) (S : ByteArray) (hS : S.size ≤ maxLen) (h : BookAt X B w g b Z) (hg : getM Z S.data.toList = none) :
    Calls Tryz.prog 53 #[ptr g, .string S] w fun e w' => e = .returned (.tuple #[enV enZ, .int .i64 6]) ∧ Below w.heap.size w w' := by
  have hbx : Below w.heap.size w (w.alloc (.cells zer33 84)) := (Below.refl _ _).alloc (Nat.le_refl _) _
  obtain ⟨W, hW⟩ : ∃ W, W = w.alloc (.cells zer33 84) := ⟨_, rfl⟩
  rw [← hW] at hbx
  have hq0 : W.heap[w.heap.size]? = some (.cells zer33 84) := by rw [hW]; exact (MapKept.heap_alloc w _).1
  have h1 := h.below hbx
  have K := log_any B W g b Z S hS h1
  unfold logV at K
  rw [hg] at K
  dsimp only at K
  have HI2 : Hid ((Tryz.prog.info? 84).map (·.size) = some zer33.size) := Lib.hid (by kernel_rfl)
  have HONE : Hid (zer33.all (·.oneCell') = true) := Lib.hid (by kernel_rfl)
  have HK := Lib.hid K; have HQ0 := Lib.hid hq0; have HW := Lib.hid hW
  clear K hq0 hbx hg h h1 hW
  unfold ptr at *
  go_enter Tryz.func53, Tryz.ntmps53
  go_wp2_with fail
  change Calls _ _ _ (w.alloc (.cells zer33 84)) _
  rw [← HW.out]
  refine HK.out.mono ?_
  rintro e w1 ⟨rfl, rfl⟩
  obtain ⟨hq6, hb6⟩ : (w1.setRow w.heap.size zer33).heap[w.heap.size]? = some (.cells zer33 84) ∧ Below w.heap.size w (w1.setRow w.heap.size zer33) := by rw [HW.out]; exact store_new w _
  have HQ6 := Lib.hid hq6; have HB6 := Lib.hid hb6
  clear hq6 hb6 HK
  go_wp2_with (first
    | (refine wpList_store_row rfl _ _ _ rfl w.heap.size zer33 rfl rfl 84 zer33 HQ0.out HI2.out rfl HONE.out ?_))
  have hld := run_loadVar_row (P := Tryz.prog) (w1.setRow w.heap.size zer33) w.heap.size _ 84 zer33 _ _ HQ6.out Tryz.underlying84 rfl HI2.out
  refine bodyPost_ret (v := .tuple #[enV enZ, .int .i64 6]) ?_ rfl ?_
  · rw [results_cell_tmp (fn := Tryz.f53) rfl]
    show ((asAddr (.pointer (some ⟨w.heap.size, 0, none⟩))).run Tryz.prog _).andThen _ = _
    simp only [asAddr, Sem.run_pure, Result.andThen_ok, hld]
    rw [enV, enZ_cells]
    rfl
  · exact ⟨rfl, HB6.out⟩
end Go.Proofs.YtkeegnhjemhblaaGreatDoor.Rf
/-
  The contract of munimentlaw20's log, where the two lists are equal.
-/
namespace Go.Proofs.YtkeegnhjemhblaaGreatDoor.Rb
open Go.RowKit Go.Maps Go.WideMaps Go.Proofs.YtkeegnhjemhblaaGreatDoor.Rf

theorem rsize8 (w : World) : (sizeOf 5).run Tryz.prog w = .ok 1 w := by kernel_rfl
theorem row_bytes {w w' : World} {B : Nat} {T : TypeId} {g n c : Nat} {l : List En} {i : Nat} {e : En} (h : w.ownsRow B T 33 (.slice (some ⟨g, 0, none⟩) n c) n (cellsL l)) (hn : n ≠ 0) (hl : ∀ e ∈ l, e.c.length = 32) (hi : l[i]? = some e) (hb : Below w.heap.size w w') :
    w'.rangeAt g (i * 33) (Lib.byteCells e.c) ∧ w'.cell? ⟨g, i * 33 + 32, none⟩ = some (.int .i64 e.t) := by
  obtain ⟨g', c', hv, hg, _, hc⟩ := rowS_form h hn
  injection hv with e1 _ _
  injection e1 with e1
  injection e1 with e1
  subst e1
  have ec := hl e (List.mem_of_getElem? hi)
  refine ⟨fun t v hv => ?_, ?_⟩
  · exact (hb.cell (p := ⟨g, i * 33 + t, none⟩) hg).trans (hc _ _ (cellsL_at hl hi (by rw [En.cells, List.getElem?_append_left (List.getElem?_eq_some_iff.1 hv).1]; exact hv)))
  · refine (hb.cell (p := ⟨g, i * 33 + 32, none⟩) hg).trans (hc _ _ (cellsL_at hl hi ?_))
    rw [En.cells, List.getElem?_append_right (by rw [Lib.byteCells_length, ec]; omega), Lib.byteCells_length, ec]; rfl
set_option linter.unusedSimpArgs false in
set_option maxHeartbeats 8000000 in
set_option maxRecDepth 100000 in
theorem samelog_any {B C : Nat} (w : World) (v u : Value) (l : List En) {T T' : TypeId} (hv : w.ownsRow B T 33 v l.length (cellsL l)) (hu : w.ownsRow C T' 33 u l.length (cellsL l)) (hl : ∀ e ∈ l, e.c.length = 32) (hm : l.length ≤ 4096) :
    Calls Tryz.prog 55 #[v, u] w fun e w' => e = .returned (.bool true) ∧ Below w.heap.size w w' := by
  obtain ⟨va, vc, rfl⟩ := rowS_slice hv
  obtain ⟨ua, uc, rfl⟩ := rowS_slice hu
  obtain ⟨n, hn⟩ : ∃ n, n = l.length := ⟨_, rfl⟩
  rw [← hn] at hv hu hm ⊢
  have HV := Lib.hid hv; have HU := Lib.hid hu; have HN := Lib.hid hn; have HL := Lib.hid hl
  clear hv hu hl hn
  go_enter Tryz.func55, Tryz.ntmps55
  go_wp2
  go_loopw [5] (fun v5 ws => ∃ i : Nat, i ≤ n ∧ v5 = .int .i64 (i : Int) ∧ Hid (Below w.heap.size w ws)) (fun v5 _ => n - (RowKit.intOf v5).toNat)
  case atStart => exact ⟨0, Nat.zero_le _, rfl, Lib.hid (Below.refl _ _)⟩
  case round =>
    obtain ⟨i, hi, rfl, HB⟩ := hrel
    obtain ⟨ws, hws⟩ : ∃ ws, ws = wr := ⟨_, rfl⟩
    subst hws
    by_cases hin : (i : Int) < (n : Int)
    · obtain ⟨e, he⟩ : ∃ e, l[i]? = some e := ⟨_, List.getElem?_eq_getElem (by rw [← HN.out]; omega)⟩
      have hn0 : n ≠ 0 := by omega
      obtain ⟨g1, c1, h1, _⟩ := rowS_form HV.out hn0
      obtain ⟨g2, c2, h2, _⟩ := rowS_form HU.out hn0
      injection h1 with a1 _ _
      injection h2 with a2 _ _
      subst a1 a2
      have ec := HL.out e (List.mem_of_getElem? he)
      have KS : Hid (∀ w', Below w.heap.size w w' → w'.rangeAt g1 (i * 33) (Lib.byteCells e.c) ∧ w'.rangeAt g2 (i * 33) (Lib.byteCells e.c) ∧ w'.cell? ⟨g1, i * 33 + 32, none⟩ = some (.int .i64 e.t) ∧ w'.cell? ⟨g2, i * 33 + 32, none⟩ = some (.int .i64 e.t)) := Lib.hid (fun w' hb => by
        obtain ⟨a, b⟩ := row_bytes HV.out hn0 HL.out he hb
        obtain ⟨c, d⟩ := row_bytes HU.out hn0 HL.out he hb
        exact ⟨a, c, b, d⟩)
      have HI : Hid ((Tryz.prog.info? 81).map (·.size) = some (Lib.byteCells e.c).toArray.size) := Lib.hid (by rw [List.size_toArray, Lib.byteCells_length, ec]; kernel_rfl)
      have hE : ∀ w : World, (Op.equalIn 10000 81 (.agg (Lib.byteCells e.c).toArray) (.agg (Lib.byteCells e.c).toArray)).run Tryz.prog w = .ok true w := fun w => by
        have hb := run_equalIn_bytes (P := Tryz.prog) w 9998 81 5 32 Tryz.underlying81 Tryz.underlying5 rsize8 e.c e.c ec ec
        rw [beq_self_eq_true, show List.map Extern.Stop.cell e.c = Lib.byteCells e.c from rfl, show (9998 + 2 : Nat) = 10000 from rfl] at hb
        exact hb
      have h0 : (0 : Int) ≤ (i : Int) := by omega
      clear he hn0 ec
      go_upto_region 6 with (fail)
      refine wp_region_held_drew (S := (fun w' : World => w'.rangeAt g1 (i * 33) (Lib.byteCells e.c) ∧ w'.rangeAt g2 (i * 33) (Lib.byteCells e.c) ∧ w'.cell? ⟨g1, i * 33 + 32, none⟩ = some (.int .i64 e.t) ∧ w'.cell? ⟨g2, i * 33 + 32, none⟩ = some (.int .i64 e.t))) (by kernel_rfl) (KS.out _ (HB.out.drew)) (fun hHeld => ?_)
      refine wpAnyH_take (i := 0) (v := ?_) rfl (by kernel_rfl) (by kernel_rfl) (by kernel_rfl) (fun _ _ _ h => h) (Or.inl ⟨by rfl, ?e60⟩) hHeld ?_
      case e60 =>
        intro wS hSw
        obtain ⟨z0, z1, z2, z3⟩ := hSw
        go_simp
        try with_reducible rfl
      try simp only [Act.put, List.getElem_toArray, List.getElem_cons_zero, List.getElem_cons_succ, List.setIfInBounds_toArray, List.set_cons_zero, List.set_cons_succ]
      refine wpAnyH_take (i := 1) (v := ?_) rfl (by kernel_rfl) (by kernel_rfl) (by kernel_rfl) (fun _ _ _ h => h) (Or.inl ⟨by rfl, ?e61⟩) hHeld ?_
      case e61 =>
        intro wS hSw
        obtain ⟨z0, z1, z2, z3⟩ := hSw
        go_simp
        try with_reducible rfl
      try simp only [Act.put, List.getElem_toArray, List.getElem_cons_zero, List.getElem_cons_succ, List.setIfInBounds_toArray, List.set_cons_zero, List.set_cons_succ]
      refine wpAnyH_take (i := 2) (v := ?_) rfl (by kernel_rfl) (by kernel_rfl) (by kernel_rfl) (fun _ _ _ h => h) (Or.inl ⟨by rfl, ?e62⟩) hHeld ?_
      case e62 =>
        intro wS hSw
        obtain ⟨z0, z1, z2, z3⟩ := hSw
        go_simp
        try with_reducible rfl
      try simp only [Act.put, List.getElem_toArray, List.getElem_cons_zero, List.getElem_cons_succ, List.setIfInBounds_toArray, List.set_cons_zero, List.set_cons_succ]
      refine wpAnyH_take (i := 3) (v := ?_) rfl (by kernel_rfl) (by kernel_rfl) (by kernel_rfl) (fun _ _ _ h => h) (Or.inl ⟨by rfl, ?e63⟩) hHeld ?_
      case e63 =>
        intro wS hSw
        obtain ⟨z0, z1, z2, z3⟩ := hSw
        go_simp
        try with_reducible rfl
      try simp only [Act.put, List.getElem_toArray, List.getElem_cons_zero, List.getElem_cons_succ, List.setIfInBounds_toArray, List.set_cons_zero, List.set_cons_succ]
      refine' wpAnyH_take (i := 4) (v := _) rfl (by kernel_rfl) (by kernel_rfl) (by kernel_rfl) (fun _ _ _ h => h) (yieldsIf_load_mid (by rfl) _ _ rfl g1 (i * 33) rfl (Lib.byteCells e.c) _ ?e64S ?e64u ?e64d ?e64i) hHeld ?e64x
      case e64S =>
        intro wS hSw
        obtain ⟨z0, z1, z2, z3⟩ := hSw
        exact z0
      case e64u => exact Tryz.underlying81
      case e64d => rfl
      case e64i => exact HI.out
      try simp only [Act.put, List.getElem_toArray, List.getElem_cons_zero, List.getElem_cons_succ, List.setIfInBounds_toArray, List.set_cons_zero, List.set_cons_succ]
      refine wpAnyH_take (i := 5) (v := ?_) rfl (by kernel_rfl) (by kernel_rfl) (by kernel_rfl) (fun _ _ _ h => h) (Or.inl ⟨by rfl, ?e65⟩) hHeld ?_
      case e65 =>
        intro wS hSw
        obtain ⟨z0, z1, z2, z3⟩ := hSw
        go_simp
        try with_reducible rfl
      try simp only [Act.put, List.getElem_toArray, List.getElem_cons_zero, List.getElem_cons_succ, List.setIfInBounds_toArray, List.set_cons_zero, List.set_cons_succ]
      refine wpAnyH_take (i := 6) (v := ?_) rfl (by kernel_rfl) (by kernel_rfl) (by kernel_rfl) (fun _ _ _ h => h) (Or.inl ⟨by rfl, ?e66⟩) hHeld ?_
      case e66 =>
        intro wS hSw
        obtain ⟨z0, z1, z2, z3⟩ := hSw
        go_simp
        try with_reducible rfl
      try simp only [Act.put, List.getElem_toArray, List.getElem_cons_zero, List.getElem_cons_succ, List.setIfInBounds_toArray, List.set_cons_zero, List.set_cons_succ]
      refine wpAnyH_take (i := 7) (v := ?_) rfl (by kernel_rfl) (by kernel_rfl) (by kernel_rfl) (fun _ _ _ h => h) (Or.inl ⟨by rfl, ?e67⟩) hHeld ?_
      case e67 =>
        intro wS hSw
        obtain ⟨z0, z1, z2, z3⟩ := hSw
        go_simp
        try with_reducible rfl
      try simp only [Act.put, List.getElem_toArray, List.getElem_cons_zero, List.getElem_cons_succ, List.setIfInBounds_toArray, List.set_cons_zero, List.set_cons_succ]
      refine wpAnyH_take (i := 8) (v := ?_) rfl (by kernel_rfl) (by kernel_rfl) (by kernel_rfl) (fun _ _ _ h => h) (Or.inl ⟨by rfl, ?e68⟩) hHeld ?_
      case e68 =>
        intro wS hSw
        obtain ⟨z0, z1, z2, z3⟩ := hSw
        go_simp
        try with_reducible rfl
      try simp only [Act.put, List.getElem_toArray, List.getElem_cons_zero, List.getElem_cons_succ, List.setIfInBounds_toArray, List.set_cons_zero, List.set_cons_succ]
      refine' wpAnyH_take (i := 9) (v := _) rfl (by kernel_rfl) (by kernel_rfl) (by kernel_rfl) (fun _ _ _ h => h) (yieldsIf_load_mid (by rfl) _ _ rfl g2 (i * 33) rfl (Lib.byteCells e.c) _ ?e69S ?e69u ?e69d ?e69i) hHeld ?e69x
      case e69S =>
        intro wS hSw
        obtain ⟨z0, z1, z2, z3⟩ := hSw
        exact z1
      case e69u => exact Tryz.underlying81
      case e69d => rfl
      case e69i => exact HI.out
      try simp only [Act.put, List.getElem_toArray, List.getElem_cons_zero, List.getElem_cons_succ, List.setIfInBounds_toArray, List.set_cons_zero, List.set_cons_succ]
      refine wpAnyH_take (i := 10) (v := ?_) rfl (by kernel_rfl) (by kernel_rfl) (by kernel_rfl) (fun _ _ _ h => h) (Or.inl ⟨by rfl, ?e610⟩) hHeld ?_
      case e610 =>
        intro wS hSw
        obtain ⟨z0, z1, z2, z3⟩ := hSw
        go_simp
        try with_reducible rfl
      try simp only [Act.put, List.getElem_toArray, List.getElem_cons_zero, List.getElem_cons_succ, List.setIfInBounds_toArray, List.set_cons_zero, List.set_cons_succ]
      refine wpAnyH_take (i := 11) (v := ?_) rfl (by kernel_rfl) (by kernel_rfl) (by kernel_rfl) (fun _ _ _ h => h) (Or.inl ⟨by rfl, ?e611⟩) hHeld ?_
      case e611 =>
        intro wS hSw
        obtain ⟨z0, z1, z2, z3⟩ := hSw
        go_simp
        try with_reducible rfl
      try simp only [Act.put, List.getElem_toArray, List.getElem_cons_zero, List.getElem_cons_succ, List.setIfInBounds_toArray, List.set_cons_zero, List.set_cons_succ]
      refine wpAnyH_take (i := 12) (v := ?_) rfl (by kernel_rfl) (by kernel_rfl) (by kernel_rfl) (fun _ _ _ h => h) (Or.inl ⟨by rfl, ?e612⟩) hHeld ?_
      case e612 =>
        intro wS hSw
        obtain ⟨z0, z1, z2, z3⟩ := hSw
        go_simp
        try with_reducible rfl
      try simp only [Act.put, List.getElem_toArray, List.getElem_cons_zero, List.getElem_cons_succ, List.setIfInBounds_toArray, List.set_cons_zero, List.set_cons_succ]
      refine wpAnyH_take (i := 13) (v := ?_) rfl (by kernel_rfl) (by kernel_rfl) (by kernel_rfl) (fun _ _ _ h => h) (Or.inl ⟨by rfl, ?e613⟩) hHeld ?_
      case e613 =>
        intro wS hSw
        obtain ⟨z0, z1, z2, z3⟩ := hSw
        go_simp
        try with_reducible rfl
      try simp only [Act.put, List.getElem_toArray, List.getElem_cons_zero, List.getElem_cons_succ, List.setIfInBounds_toArray, List.set_cons_zero, List.set_cons_succ]
      refine wpAnyH_take (i := 14) (v := ?_) rfl (by kernel_rfl) (by kernel_rfl) (by kernel_rfl) (fun _ _ _ h => h) (Or.inl ⟨by rfl, ?e614⟩) hHeld ?_
      case e614 =>
        intro wS hSw
        obtain ⟨z0, z1, z2, z3⟩ := hSw
        go_simp
        try with_reducible rfl
      try simp only [Act.put, List.getElem_toArray, List.getElem_cons_zero, List.getElem_cons_succ, List.setIfInBounds_toArray, List.set_cons_zero, List.set_cons_succ]
      refine wpAnyH_take (i := 15) (v := ?_) rfl (by kernel_rfl) (by kernel_rfl) (by kernel_rfl) (fun _ _ _ h => h) (Or.inl ⟨by rfl, ?e615⟩) hHeld ?_
      case e615 =>
        intro wS hSw
        obtain ⟨z0, z1, z2, z3⟩ := hSw
        go_simp
        try with_reducible rfl
      try simp only [Act.put, List.getElem_toArray, List.getElem_cons_zero, List.getElem_cons_succ, List.setIfInBounds_toArray, List.set_cons_zero, List.set_cons_succ]
      refine wpAnyH_take (i := 16) (v := ?_) rfl (by kernel_rfl) (by kernel_rfl) (by kernel_rfl) (fun _ _ _ h => h) (Or.inl ⟨by rfl, ?e616⟩) hHeld ?_
      case e616 =>
        intro wS hSw
        obtain ⟨z0, z1, z2, z3⟩ := hSw
        go_simp
        try with_reducible rfl
      try simp only [Act.put, List.getElem_toArray, List.getElem_cons_zero, List.getElem_cons_succ, List.setIfInBounds_toArray, List.set_cons_zero, List.set_cons_succ]
      refine wpAnyH_take (i := 17) (v := ?_) rfl (by kernel_rfl) (by kernel_rfl) (by kernel_rfl) (fun _ _ _ h => h) (Or.inl ⟨by rfl, ?e617⟩) hHeld ?_
      case e617 =>
        intro wS hSw
        obtain ⟨z0, z1, z2, z3⟩ := hSw
        go_simp
        try with_reducible rfl
      try simp only [Act.put, List.getElem_toArray, List.getElem_cons_zero, List.getElem_cons_succ, List.setIfInBounds_toArray, List.set_cons_zero, List.set_cons_succ]
      refine wpAnyH_take (i := 18) (v := ?_) rfl (by kernel_rfl) (by kernel_rfl) (by kernel_rfl) (fun _ _ _ h => h) (Or.inl ⟨by rfl, ?e618⟩) hHeld ?_
      case e618 =>
        intro wS hSw
        obtain ⟨z0, z1, z2, z3⟩ := hSw
        go_simp
        try with_reducible rfl
      try simp only [Act.put, List.getElem_toArray, List.getElem_cons_zero, List.getElem_cons_succ, List.setIfInBounds_toArray, List.set_cons_zero, List.set_cons_succ]
      refine wpAnyH_take (i := 19) (v := ?_) rfl (by kernel_rfl) (by kernel_rfl) (by kernel_rfl) (fun _ _ _ h => h) (Or.inl ⟨by rfl, ?e619⟩) hHeld ?_
      case e619 =>
        intro wS hSw
        obtain ⟨z0, z1, z2, z3⟩ := hSw
        go_simp
        try with_reducible rfl
      try simp only [Act.put, List.getElem_toArray, List.getElem_cons_zero, List.getElem_cons_succ, List.setIfInBounds_toArray, List.set_cons_zero, List.set_cons_succ]
      refine wpAnyH_take (i := 20) (v := ?_) rfl (by kernel_rfl) (by kernel_rfl) (by kernel_rfl) (fun _ _ _ h => h) (Or.inl ⟨by rfl, ?e620⟩) hHeld ?_
      case e620 =>
        intro wS hSw
        obtain ⟨z0, z1, z2, z3⟩ := hSw
        go_simp
        try with_reducible rfl
      try simp only [Act.put, List.getElem_toArray, List.getElem_cons_zero, List.getElem_cons_succ, List.setIfInBounds_toArray, List.set_cons_zero, List.set_cons_succ]
      refine wpAnyH_take (i := 21) (v := ?_) rfl (by kernel_rfl) (by kernel_rfl) (by kernel_rfl) (fun _ _ _ h => h) (Or.inl ⟨by rfl, ?e621⟩) hHeld ?_
      case e621 =>
        intro wS hSw
        obtain ⟨z0, z1, z2, z3⟩ := hSw
        go_simp
        try with_reducible rfl
      try simp only [Act.put, List.getElem_toArray, List.getElem_cons_zero, List.getElem_cons_succ, List.setIfInBounds_toArray, List.set_cons_zero, List.set_cons_succ]
      refine wpAnyH_take (i := 22) (v := ?_) rfl (by kernel_rfl) (by kernel_rfl) (by kernel_rfl) (fun _ _ _ h => h) (Or.inl ⟨by rfl, ?e622⟩) hHeld ?_
      case e622 =>
        intro wS hSw
        obtain ⟨z0, z1, z2, z3⟩ := hSw
        go_simp
        try with_reducible rfl
      try simp only [Act.put, List.getElem_toArray, List.getElem_cons_zero, List.getElem_cons_succ, List.setIfInBounds_toArray, List.set_cons_zero, List.set_cons_succ]
      refine wpAnyH_take (i := 23) (v := ?_) rfl (by kernel_rfl) (by kernel_rfl) (by kernel_rfl) (fun _ _ _ h => h) (Or.inl ⟨by rfl, ?e623⟩) hHeld ?_
      case e623 =>
        intro wS hSw
        obtain ⟨z0, z1, z2, z3⟩ := hSw
        go_simp
        try with_reducible rfl
      try simp only [Act.put, List.getElem_toArray, List.getElem_cons_zero, List.getElem_cons_succ, List.setIfInBounds_toArray, List.set_cons_zero, List.set_cons_succ]
      refine wpAnyH_done (by kernel_rfl) ?_ _
      clear hHeld
      try simp only [Act.put, List.getElem_toArray, List.getElem_cons_zero, List.getElem_cons_succ, List.setIfInBounds_toArray, List.set_cons_zero, List.set_cons_succ]
      go_wp2
      go_roundw
      case rel => exact ⟨i + 1, by omega, by go_num, Lib.hid (HB.out.drew)⟩
      case measure => simp [RowKit.intOf]; omega
    · obtain rfl : i = n := by omega
      go_wp2
      go_ret
      exact ⟨rfl, HB.out⟩
end Go.Proofs.YtkeegnhjemhblaaGreatDoor.Rb
