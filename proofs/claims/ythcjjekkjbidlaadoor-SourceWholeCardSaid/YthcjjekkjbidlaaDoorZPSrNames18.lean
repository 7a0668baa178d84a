import Derived.Test.YthcjjekkjbidlaaDoorZPSrClear
import Derived.Test.YthcjjekkjbidlaaDoorZPSrWhPlain
import Derived.Test.YthcjjekkjbidlaaDoorZPSrNmRun
set_option linter.unusedSimpArgs false
set_option linter.unusedVariables false
/-
  The contract of munimentlaw18's names: the names in a folder, out of a tree's rows.
-/
namespace Go.Proofs.YthcjjekkjbidlaaDoor.Sr
open Go.RowKit Go.Maps Go.WideMaps Go.Proofs.YthcjjekkjbidlaaDoor.Rf Go.Proofs.YthcjjekkjbidlaaDoor.Nm Go.Proofs.YthcjjekkjbidlaaDoor.St

/-- The names that the first rows tell. -/
def namK (P : List UInt8) (R : List (TE × Value)) : List (List UInt8) := R.filterMap fun p => kidS P (pathN p.1.nm)
theorem namK_snoc {P : List UInt8} {R : List (TE × Value)} {i : Nat} {p : TE × Value} (h : R[i]? = some p) : namK P (R.take (i + 1)) = namK P (R.take i) ++ (kidS P (pathN p.1.nm)).toList := by
  have h1 : List.filterMap (fun p : TE × Value => kidS P (pathN p.1.nm)) [p] = (kidS P (pathN p.1.nm)).toList := by
    cases hk : kidS P (pathN p.1.nm) <;> simp [hk]
  rw [namK, List.take_add_one, h, List.filterMap_append, namK, ← h1]; rfl
theorem namK_le (P : List UInt8) (R : List (TE × Value)) : (namK P R).length ≤ R.length := List.length_filterMap_le _ _
theorem byte47 (c : UInt8) : ((c.toNat : Int) != 47) = !(c == 47) := by
  by_cases h : c = 47
  · subst h; rfl
  · have h2 : ¬ ((c.toNat : Int) = 47) := fun e => h (UInt8.toNat_inj.1 (show c.toNat = 47 by omega))
    rw [bne, beq_eq_false_iff_ne.2 h2, beq_eq_false_iff_ne.2 h]
theorem namK_mem {P x : List UInt8} {R : List (TE × Value)} {m : Nat} (h : x ∈ namK P R) (hR : ∀ p ∈ R, (pathN p.1.nm).length ≤ m) : x.length ≤ m := by
  obtain ⟨p, hp, hk⟩ := List.mem_filterMap.1 h
  have h1 := hR p hp
  unfold kidS at hk
  split at hk
  · cases hk
  · split at hk
    · cases hk
    · split at hk
      · cases hk
      · obtain rfl := Option.some.inj hk
        rw [List.length_drop]; omega
set_option linter.unusedSimpArgs false in
set_option maxHeartbeats 16000000 in
set_option maxRecDepth 100000 in
theorem names18_any (C : Nat) (w : World) (v : Value) (R : List (TE × Value)) (hO : OutAt C w v R) (hl : R.length ≤ 1001) (n : PN) (hn : ∀ s ∈ n, chk s = true) (hP : ∀ p ∈ R, (pathN p.1.nm).length ≤ 1000000) (hpn : (pathN n).length ≤ 1000000) :
    Calls Tryd.prog 36 #[v, .string ⟨(pathN n).toArray⟩] w fun e w' => ∃ v', e = .returned v' ∧ PathAt w.heap.size w' v' (namK (pathOf n) R) ∧ Below w.heap.size w w' := by
  have HR := Lib.hid hO.row
  have HPL := Lib.hid hP
  obtain ⟨va, vc, rfl⟩ := rowS_slice hO.row
  obtain ⟨P, hPe⟩ : ∃ P, P = pathOf n := ⟨_, rfl⟩
  have hcase : (pathN n = [47] ∧ P = []) ∨ (pathN n = P ∧ P ≠ [47]) := by
    cases n with
    | nil => exact .inl ⟨rfl, by rw [hPe]; rfl⟩
    | cons a r =>
      right
      have hne : pathOf (a :: r) ≠ [] := by rw [pathOf_cons]; simp
      rw [pathN, if_neg hne, hPe]
      refine ⟨rfl, fun h => ?_⟩
      rw [pathOf_cons] at h
      injection h with _ h
      exact (chk_le (hn a (by simp))).2 (List.append_eq_nil_iff.1 h).1
  have hPl : P.length ≤ 1000000 := by
    rcases hcase with ⟨_, h⟩ | ⟨h, _⟩
    · rw [h]; simp
    · rw [← h]; exact hpn
  rw [← hPe]
  obtain ⟨N0, hN0⟩ : ∃ N0, N0 = pathN n := ⟨_, rfl⟩
  rw [← hN0] at hcase ⊢
  obtain ⟨i0, hi0, hz0, hz1, hz2⟩ := info_parts infoStr
  have hz3 : (Value.string ⟨#[]⟩).cells.size = 1 := by kernel_rfl
  clear hO hP hpn hPe hN0
  rcases hcase with ⟨rfl, hP0⟩ | ⟨rfl, hne⟩
  · have hPS : (⟨#[]⟩ : ByteArray) = ⟨P.toArray⟩ := by rw [hP0]
    have HPS := Lib.hid hPS
    clear hP0 hPS
    go_enter Tryd.func36, Tryd.ntmps36
    go_wp2
    rw [HPS.out]
    clear HPS
    go_loopw [5, 6] (fun v5 v6 wr => ∃ i : Nat, i ≤ R.length ∧ v6 = .int .i64 (i : Int) ∧ ∃ ua uc, v5 = .slice ua (namK P (R.take i)).length uc ∧ Hid (wr.ownsRow w.heap.size 9 1 (.slice ua (namK P (R.take i)).length uc) (namK P (R.take i)).length ((namK P (R.take i)).map sv)) ∧ Hid (Below w.heap.size w wr)) (fun _ v6 _ => R.length - (RowKit.intOf v6).toNat)
    case atStart => exact ⟨0, by omega, rfl, none, 0, rfl, Lib.hid (rowS_nil _ _ _ _), Lib.hid (Below.refl _ _)⟩
    case round =>
      obtain ⟨i, hi, rfl, ua, uc, rfl, HO, HB⟩ := hrel
      obtain ⟨K, hK⟩ : ∃ K, K = namK P (R.take i) := ⟨_, rfl⟩
      have HKL : Hid (K.length ≤ 1001) := Lib.hid (by rw [hK]; have h1 := namK_le P (R.take i); have h2 := List.length_take_le i R; omega)
      rw [← hK] at HO ⊢
      by_cases hil : (i : Int) < (R.length : Int)
      · have hi2 : i < R.length := by omega
        obtain ⟨p, hp⟩ : ∃ p, R[i]? = some p := ⟨_, List.getElem?_eq_getElem hi2⟩
        obtain ⟨e, xv⟩ := p
        have HSN := Lib.hid ((namK_snoc (P := P) hp).trans (by rw [← hK]))
        obtain ⟨gr, cap, hrv, hgr, _, _, hrc⟩ := rowS_form HR.out (by omega)
        obtain ⟨rfl, rfl⟩ : va = some ⟨gr, 0, none⟩ ∧ vc = cap := by injection hrv with e1 _ e3; exact ⟨e1, e3⟩
        obtain ⟨Q, hQ⟩ : ∃ Q, Q = pathN e.nm := ⟨_, rfl⟩
        have hQl : Q.length ≤ 1000000 := by rw [hQ]; exact HPL.out _ (List.mem_of_getElem? hp)
        have q0 : wr.cell? ⟨gr, i * 11, none⟩ = some (.string ⟨Q.toArray⟩) := by rw [hQ]; exact (HB.out.cell (p := ⟨gr, i * 11, none⟩) hgr).trans (hrc _ _ (vrows_at hp (j := 0) rfl))
        have HSN2 : Hid (namK P (R.take (i + 1)) = K ++ (kidS P Q).toList) := Lib.hid (by rw [HSN.out, hQ])
        have HKE := Lib.hid hK
        clear hp hrc hrv hQ HSN hK
        have NX : Hid (kidS P Q = none → namK P (R.take (i + 1)) = K) := Lib.hid (fun h => by rw [HSN2.out, h]; simp)
        by_cases h1 : (Q.length : Int) ≤ (P.length : Int) + 1
        · have HN := Lib.hid (NX.out (by rw [kidS, if_pos (by omega)]))
          clear NX HSN2
          go_wp2
          go_roundw
          case rel => exact ⟨i + 1, by omega, by go_num, ua, uc, by rw [HN.out], by rw [HN.out]; exact HO, HB⟩
          case measure => simp [RowKit.intOf]; omega
        have hex : ((⟨Q.toArray⟩ : ByteArray).extract 0 (P.length + 1)).toList = Q.take (P.length + 1) := by rw [Lib.toList_data]; simp
        have hap : ((⟨P.toArray⟩ : ByteArray) ++ ⟨#[47]⟩).toList = P ++ [47] := by rw [Lib.toList_data]; simp
        by_cases h2 : Q.take (P.length + 1) = P ++ [47]
        case neg =>
          have HN := Lib.hid (NX.out (by rw [kidS, if_neg (by omega), if_pos h2]))
          have hb2 : (((⟨Q.toArray⟩ : ByteArray).extract 0 (P.length + 1)).toList == ((⟨P.toArray⟩ : ByteArray) ++ ⟨#[47]⟩).toList) = false := by rw [hex, hap, beq_eq_false_iff_ne]; exact h2
          clear NX HSN2 hex hap h2
          go_wp2
          go_roundw
          case rel => exact ⟨i + 1, by omega, by go_num, ua, uc, by rw [HN.out], by rw [HN.out]; exact HO, HB⟩
          case measure => simp [RowKit.intOf]; omega
        have hb2 : (((⟨Q.toArray⟩ : ByteArray).extract 0 (P.length + 1)).toList == ((⟨P.toArray⟩ : ByteArray) ++ ⟨#[47]⟩).toList) = true := by rw [hex, hap, h2]; exact beq_self_eq_true _
        obtain ⟨D, hD⟩ : ∃ D, D = Q.drop (P.length + 1) := ⟨_, rfl⟩
        have hRS : (⟨Q.toArray⟩ : ByteArray).extract (P.length + 1) Q.length = ⟨D.toArray⟩ := by
          apply ByteArray.ext
          rw [hD]
          apply Array.ext'
          simp
          exact List.take_of_length_le (by rw [List.length_drop]; omega)
        have hDl : D.length ≤ 1000000 := by rw [hD, List.length_drop]; omega
        have HKS : Hid (kidS P Q = if 47 ∈ D then none else some D) := Lib.hid (by rw [kidS, if_neg (by omega), if_neg (by rw [h2]; simp), ← hD])
        have HRS := Lib.hid hRS
        clear hex hap h2 hD hRS
        go_wp2
        rw [HRS.out]
        go_loopw [9, 10] (fun v9 v10 ws => ∃ k : Nat, k ≤ D.length ∧ v10 = .int .i64 (k : Int) ∧ v9 = .bool (!(D.take k).contains 47) ∧ ws = wr) (fun _ v10 _ => D.length - (RowKit.intOf v10).toNat)
        case atStart => exact ⟨0, by omega, rfl, by simp, rfl⟩
        case round =>
          obtain ⟨k, hk, rfl, rfl, rfl⟩ := hrel
          by_cases hkl : (k : Int) < (D.length : Int)
          · have hk2 : k < D.length := by omega
            have HTC : Hid ((D.take (k + 1)).contains 47 = ((D.take k).contains 47 || (D[k] == 47))) := Lib.hid (by
              rw [Bool.eq_iff_iff, List.take_add_one, List.getElem?_eq_getElem hk2, Bool.or_eq_true, List.contains_iff_mem, List.contains_iff_mem, List.mem_append, beq_iff_eq]; simp [eq_comm])
            cases hc : (D.take k).contains 47 with
            | true =>
              have HR2 : Hid ((D.take (k + 1)).contains 47 = true) := Lib.hid (by rw [HTC.out, hc]; rfl)
              clear hc HTC
              go_wp2
              go_roundw
              case rel => exact ⟨k + 1, by omega, by go_num, by rw [HR2.out]; rfl, trivial⟩
              case measure => simp [RowKit.intOf]; omega
            | false =>
              have HR2 : Hid ((((D[k]'hk2).toNat : Int) != 47) = !(D.take (k + 1)).contains 47) := Lib.hid (by rw [HTC.out, hc, Bool.false_or]; exact byte47 _)
              clear hc HTC
              go_wp2
              go_roundw
              case rel => exact ⟨k + 1, by omega, by go_num, by rw [← HR2.out]; rfl, trivial⟩
              case measure => simp [RowKit.intOf]; omega
          · obtain rfl : k = D.length := by omega
            rw [List.take_length]
            cases hc : D.contains 47 with
            | true =>
              have HN := Lib.hid (NX.out (by rw [HKS.out, if_pos (List.contains_iff_mem.1 hc)]))
              clear NX HSN2 HKS hc
              go_wp2
              go_roundw
              case rel => exact ⟨i + 1, by omega, by go_num, ua, uc, by rw [HN.out], by rw [HN.out]; exact HO, HB⟩
              case measure => simp [RowKit.intOf]; omega
            | false =>
              have HN : Hid (namK P (R.take (i + 1)) = K ++ [D]) := Lib.hid (by
                rw [HSN2.out, HKS.out, if_neg (fun h => by rw [List.contains_iff_mem.2 h] at hc; cases hc)]; rfl)
              have hkl2 := HKL.out
              clear NX HSN2 HKS hc
              go_wp2_with (first
                | (at_builtin
                   refine wpList_append_own_at _ rfl _ _ 55 rfl w.heap.size 9 i0 _ 1 16 Tryd.underlying55 hi0 hz0 hz1 hz2 hz3 (by decide) (.slice ua K.length uc) K.length (K.map sv) rfl (rowS_kept HO.out (fun x _ hl => Below.heap_alloc _ _ x hl)) ⟨wr.heap.size, 0, none⟩ 1 1 [.string ⟨D.toArray⟩] rfl rfl ?q1 (by intro u hu; rw [List.mem_singleton] at hu; subst hu; rfl) ?q2 ?q3 ?q4 ?_
                   case q1 => exact cell_one_new _ _ _
                   case q2 => unfold maxLen; omega
                   case q3 => omega
                   case q4 => rw [one_size]; have := HB.out.size; omega
                   intro v6 w6 ho6 hg6 hn6 hx6
                   have HB6 : Hid (Below w.heap.size w w6) := Lib.hid ((HB.out.alloc HB.out.size _).grown hg6 (by rw [one_size]; have := HB.out.size; omega) (fun k hk => rowS_ge HO.out k (by unfold ob; rw [hk]; simp)))
                   obtain ⟨a6, c6, rfl⟩ := rowS_slice ho6
                   have HO6 := Lib.hid ho6
                   clear ho6 hg6 hn6 hx6)
                | fail)
              go_roundw
              case rel => exact ⟨i + 1, by omega, by go_num, a6, c6, by rw [HN.out, List.length_append]; rfl, Lib.hid (by rw [HN.out, List.length_append, List.map_append]; exact HO6.out), HB6⟩
              case measure => simp [RowKit.intOf]; omega
      · obtain rfl : i = R.length := by omega
        have HK2 : Hid (K = namK P R) := Lib.hid (by rw [hK, List.take_length])
        clear hK
        go_wp2
        go_ret
        exact ⟨_, rfl, ⟨by rw [← HK2.out]; exact HO.out, fun x hx => by have := namK_mem hx HPL.out; unfold maxLen; omega⟩, HB.out⟩
  · have hb1 : (N0 == [47]) = false := by rw [beq_eq_false_iff_ne]; exact hne
    go_enter Tryd.func36, Tryd.ntmps36
    go_wp2
    go_loopw [5, 6] (fun v5 v6 wr => ∃ i : Nat, i ≤ R.length ∧ v6 = .int .i64 (i : Int) ∧ ∃ ua uc, v5 = .slice ua (namK N0 (R.take i)).length uc ∧ Hid (wr.ownsRow w.heap.size 9 1 (.slice ua (namK N0 (R.take i)).length uc) (namK N0 (R.take i)).length ((namK N0 (R.take i)).map sv)) ∧ Hid (Below w.heap.size w wr)) (fun _ v6 _ => R.length - (RowKit.intOf v6).toNat)
    case atStart => exact ⟨0, by omega, rfl, none, 0, rfl, Lib.hid (rowS_nil _ _ _ _), Lib.hid (Below.refl _ _)⟩
    case round =>
      obtain ⟨i, hi, rfl, ua, uc, rfl, HO, HB⟩ := hrel
      obtain ⟨K, hK⟩ : ∃ K, K = namK N0 (R.take i) := ⟨_, rfl⟩
      have HKL : Hid (K.length ≤ 1001) := Lib.hid (by rw [hK]; have h1 := namK_le N0 (R.take i); have h2 := List.length_take_le i R; omega)
      rw [← hK] at HO ⊢
      by_cases hil : (i : Int) < (R.length : Int)
      · have hi2 : i < R.length := by omega
        obtain ⟨p, hp⟩ : ∃ p, R[i]? = some p := ⟨_, List.getElem?_eq_getElem hi2⟩
        obtain ⟨e, xv⟩ := p
        have HSN := Lib.hid ((namK_snoc (P := N0) hp).trans (by rw [← hK]))
        obtain ⟨gr, cap, hrv, hgr, _, _, hrc⟩ := rowS_form HR.out (by omega)
        obtain ⟨rfl, rfl⟩ : va = some ⟨gr, 0, none⟩ ∧ vc = cap := by injection hrv with e1 _ e3; exact ⟨e1, e3⟩
        obtain ⟨Q, hQ⟩ : ∃ Q, Q = pathN e.nm := ⟨_, rfl⟩
        have hQl : Q.length ≤ 1000000 := by rw [hQ]; exact HPL.out _ (List.mem_of_getElem? hp)
        have q0 : wr.cell? ⟨gr, i * 11, none⟩ = some (.string ⟨Q.toArray⟩) := by rw [hQ]; exact (HB.out.cell (p := ⟨gr, i * 11, none⟩) hgr).trans (hrc _ _ (vrows_at hp (j := 0) rfl))
        have HSN2 : Hid (namK N0 (R.take (i + 1)) = K ++ (kidS N0 Q).toList) := Lib.hid (by rw [HSN.out, hQ])
        have HKE := Lib.hid hK
        clear hp hrc hrv hQ HSN hK
        have NX : Hid (kidS N0 Q = none → namK N0 (R.take (i + 1)) = K) := Lib.hid (fun h => by rw [HSN2.out, h]; simp)
        by_cases h1 : (Q.length : Int) ≤ (N0.length : Int) + 1
        · have HN := Lib.hid (NX.out (by rw [kidS, if_pos (by omega)]))
          clear NX HSN2
          go_wp2
          go_roundw
          case rel => exact ⟨i + 1, by omega, by go_num, ua, uc, by rw [HN.out], by rw [HN.out]; exact HO, HB⟩
          case measure => simp [RowKit.intOf]; omega
        have hex : ((⟨Q.toArray⟩ : ByteArray).extract 0 (N0.length + 1)).toList = Q.take (N0.length + 1) := by rw [Lib.toList_data]; simp
        have hap : ((⟨N0.toArray⟩ : ByteArray) ++ ⟨#[47]⟩).toList = N0 ++ [47] := by rw [Lib.toList_data]; simp
        by_cases h2 : Q.take (N0.length + 1) = N0 ++ [47]
        case neg =>
          have HN := Lib.hid (NX.out (by rw [kidS, if_neg (by omega), if_pos h2]))
          have hb2 : (((⟨Q.toArray⟩ : ByteArray).extract 0 (N0.length + 1)).toList == ((⟨N0.toArray⟩ : ByteArray) ++ ⟨#[47]⟩).toList) = false := by rw [hex, hap, beq_eq_false_iff_ne]; exact h2
          clear NX HSN2 hex hap h2
          go_wp2
          go_roundw
          case rel => exact ⟨i + 1, by omega, by go_num, ua, uc, by rw [HN.out], by rw [HN.out]; exact HO, HB⟩
          case measure => simp [RowKit.intOf]; omega
        have hb2 : (((⟨Q.toArray⟩ : ByteArray).extract 0 (N0.length + 1)).toList == ((⟨N0.toArray⟩ : ByteArray) ++ ⟨#[47]⟩).toList) = true := by rw [hex, hap, h2]; exact beq_self_eq_true _
        obtain ⟨D, hD⟩ : ∃ D, D = Q.drop (N0.length + 1) := ⟨_, rfl⟩
        have hRS : (⟨Q.toArray⟩ : ByteArray).extract (N0.length + 1) Q.length = ⟨D.toArray⟩ := by
          apply ByteArray.ext
          rw [hD]
          apply Array.ext'
          simp
          exact List.take_of_length_le (by rw [List.length_drop]; omega)
        have hDl : D.length ≤ 1000000 := by rw [hD, List.length_drop]; omega
        have HKS : Hid (kidS N0 Q = if 47 ∈ D then none else some D) := Lib.hid (by rw [kidS, if_neg (by omega), if_neg (by rw [h2]; simp), ← hD])
        have HRS := Lib.hid hRS
        clear hex hap h2 hD hRS
        go_wp2
        rw [HRS.out]
        go_loopw [9, 10] (fun v9 v10 ws => ∃ k : Nat, k ≤ D.length ∧ v10 = .int .i64 (k : Int) ∧ v9 = .bool (!(D.take k).contains 47) ∧ ws = wr) (fun _ v10 _ => D.length - (RowKit.intOf v10).toNat)
        case atStart => exact ⟨0, by omega, rfl, by simp, rfl⟩
        case round =>
          obtain ⟨k, hk, rfl, rfl, rfl⟩ := hrel
          by_cases hkl : (k : Int) < (D.length : Int)
          · have hk2 : k < D.length := by omega
            have HTC : Hid ((D.take (k + 1)).contains 47 = ((D.take k).contains 47 || (D[k] == 47))) := Lib.hid (by
              rw [Bool.eq_iff_iff, List.take_add_one, List.getElem?_eq_getElem hk2, Bool.or_eq_true, List.contains_iff_mem, List.contains_iff_mem, List.mem_append, beq_iff_eq]; simp [eq_comm])
            cases hc : (D.take k).contains 47 with
            | true =>
              have HR2 : Hid ((D.take (k + 1)).contains 47 = true) := Lib.hid (by rw [HTC.out, hc]; rfl)
              clear hc HTC
              go_wp2
              go_roundw
              case rel => exact ⟨k + 1, by omega, by go_num, by rw [HR2.out]; rfl, trivial⟩
              case measure => simp [RowKit.intOf]; omega
            | false =>
              have HR2 : Hid ((((D[k]'hk2).toNat : Int) != 47) = !(D.take (k + 1)).contains 47) := Lib.hid (by rw [HTC.out, hc, Bool.false_or]; exact byte47 _)
              clear hc HTC
              go_wp2
              go_roundw
              case rel => exact ⟨k + 1, by omega, by go_num, by rw [← HR2.out]; rfl, trivial⟩
              case measure => simp [RowKit.intOf]; omega
          · obtain rfl : k = D.length := by omega
            rw [List.take_length]
            cases hc : D.contains 47 with
            | true =>
              have HN := Lib.hid (NX.out (by rw [HKS.out, if_pos (List.contains_iff_mem.1 hc)]))
              clear NX HSN2 HKS hc
              go_wp2
              go_roundw
              case rel => exact ⟨i + 1, by omega, by go_num, ua, uc, by rw [HN.out], by rw [HN.out]; exact HO, HB⟩
              case measure => simp [RowKit.intOf]; omega
            | false =>
              have HN : Hid (namK N0 (R.take (i + 1)) = K ++ [D]) := Lib.hid (by
                rw [HSN2.out, HKS.out, if_neg (fun h => by rw [List.contains_iff_mem.2 h] at hc; cases hc)]; rfl)
              have hkl2 := HKL.out
              clear NX HSN2 HKS hc
              go_wp2_with (first
                | (at_builtin
                   refine wpList_append_own_at _ rfl _ _ 55 rfl w.heap.size 9 i0 _ 1 16 Tryd.underlying55 hi0 hz0 hz1 hz2 hz3 (by decide) (.slice ua K.length uc) K.length (K.map sv) rfl (rowS_kept HO.out (fun x _ hl => Below.heap_alloc _ _ x hl)) ⟨wr.heap.size, 0, none⟩ 1 1 [.string ⟨D.toArray⟩] rfl rfl ?q1 (by intro u hu; rw [List.mem_singleton] at hu; subst hu; rfl) ?q2 ?q3 ?q4 ?_
                   case q1 => exact cell_one_new _ _ _
                   case q2 => unfold maxLen; omega
                   case q3 => omega
                   case q4 => rw [one_size]; have := HB.out.size; omega
                   intro v6 w6 ho6 hg6 hn6 hx6
                   have HB6 : Hid (Below w.heap.size w w6) := Lib.hid ((HB.out.alloc HB.out.size _).grown hg6 (by rw [one_size]; have := HB.out.size; omega) (fun k hk => rowS_ge HO.out k (by unfold ob; rw [hk]; simp)))
                   obtain ⟨a6, c6, rfl⟩ := rowS_slice ho6
                   have HO6 := Lib.hid ho6
                   clear ho6 hg6 hn6 hx6)
                | fail)
              go_roundw
              case rel => exact ⟨i + 1, by omega, by go_num, a6, c6, by rw [HN.out, List.length_append]; rfl, Lib.hid (by rw [HN.out, List.length_append, List.map_append]; exact HO6.out), HB6⟩
              case measure => simp [RowKit.intOf]; omega
      · obtain rfl : i = R.length := by omega
        have HK2 : Hid (K = namK N0 R) := Lib.hid (by rw [hK, List.take_length])
        clear hK
        go_wp2
        go_ret
        exact ⟨_, rfl, ⟨by rw [← HK2.out]; exact HO.out, fun x hx => by have := namK_mem hx HPL.out; unfold maxLen; omega⟩, HB.out⟩
end Go.Proofs.YthcjjekkjbidlaaDoor.Sr
