/-
  The contracts of the reference's Join and Under: they answer what the program's answer.
-/
import Derived.Test.YtofdhhemdoodaaaDoorNmRefSplit
import Derived.Test.YtofdhhemdoodaaaDoorNmAwake
namespace Go.Proofs.YtofdhhemdoodaaaDoor.Nm
open Go.RowKit

theorem parts_noslash (l : List UInt8) : ∀ x ∈ parts l, ∀ c ∈ x, c ≠ 47 := by
  induction l with
  | nil => intro x hx; simp [parts] at hx; subst hx; simp
  | cons a t ih =>
    intro x hx
    rw [parts] at hx
    split at hx
    · rcases List.mem_cons.1 hx with rfl | hx
      · simp
      · exact ih x hx
    · rename_i hne
      split at hx
      · rename_i e; exact absurd e (parts_ne t)
      · rename_i b r e
        rw [e] at ih
        rcases List.mem_cons.1 hx with rfl | hx
        · intro c hc
          rcases List.mem_cons.1 hc with rfl | hc
          · exact hne
          · exact ih b (by simp) c hc
        · exact ih x (by simp [hx])

theorem pathOf_cons (n : List UInt8) (ns : List (List UInt8)) : pathOf (n :: ns) = 47 :: (n ++ pathOf ns) := by simp [pathOf]

theorem pathOf_parts (t : List UInt8) : pathOf (parts t) = 47 :: t := by
  induction t with
  | nil => simp [parts, pathOf]
  | cons a t ih =>
    rw [parts]
    by_cases h : a = 47
    · subst h; rw [if_pos rfl, pathOf_cons, ih]; rfl
    · rw [if_neg h]
      cases e : parts t with
      | nil => exact absurd e (parts_ne t)
      | cons b r =>
        rw [e, pathOf_cons] at ih
        have ih := (List.cons.inj ih).2
        rw [pathOf_cons, List.cons_append, ih]

theorem splitP_path {p : List UInt8} {ns : List (List UInt8)} (h : splitP p = some ns) (hne : ns ≠ []) : p = pathOf ns ∧ (∀ x ∈ ns, ∀ c ∈ x, c ≠ 47) ∧ ns.all chk = true ∧ ns.length ≤ 16 := by
  unfold splitP at h
  split at h
  · exact absurd (Option.some.inj h).symm hne
  · split at h
    · rename_i hh
      simp only [Bool.and_eq_true, decide_eq_true_eq] at hh
      obtain ⟨⟨h1, h2⟩, h3⟩ := hh
      obtain ⟨t, rfl⟩ := (hasPrefix_one _).1 h1
      have e := Option.some.inj h
      subst e
      refine ⟨by rw [pathOf_parts]; rfl, parts_noslash _, h3, ?_⟩
      rw [parts_count]
      simp at h2 ⊢
      omega
    · cases h

theorem hp_cons (a b : UInt8) (s t : List UInt8) : Lib.hasPrefix (a :: s) (b :: t) = (a == b && Lib.hasPrefix s t) := by
  simp only [Lib.hasPrefix, List.isPrefixOf]
  congr 1
  exact BEq.comm

theorem hp_name (n m S T : List UInt8) (hn : ∀ c ∈ n, c ≠ 47) (hm : ∀ c ∈ m, c ≠ 47) (hS : S = [] ∨ ∃ s, S = 47 :: s) :
    Lib.hasPrefix (n ++ S) (m ++ 47 :: T) = (n == m && Lib.hasPrefix S (47 :: T)) := by
  induction m generalizing n with
  | nil =>
    cases n with
    | nil => simp
    | cons a n =>
      have : (a == (47 : UInt8)) = false := by simpa using hn a (by simp)
      simp only [List.cons_append, List.nil_append, hp_cons, this]
      rfl
  | cons b m ih =>
    cases n with
    | nil =>
      have hb : b ≠ 47 := hm b (by simp)
      rcases hS with rfl | ⟨s, rfl⟩
      · simp [Lib.hasPrefix]
      · have : ((47 : UInt8) == b) = false := by simpa using Ne.symm hb
        simp only [List.cons_append, List.nil_append, hp_cons, this]
        rfl
    | cons a n =>
      simp only [List.cons_append, hp_cons]
      rw [ih n (fun c hc => hn c (by simp [hc])) (fun c hc => hm c (by simp [hc]))]
      rw [List.cons_beq_cons, Bool.and_assoc]

theorem hp_path (ns ms : List (List UInt8)) (hn : ∀ x ∈ ns, ∀ c ∈ x, c ≠ 47) (hm : ∀ x ∈ ms, ∀ c ∈ x, c ≠ 47) :
    Lib.hasPrefix (pathOf ns) (pathOf ms ++ [47]) = (decide (ms.length < ns.length) && (ns.take ms.length == ms)) := by
  induction ms generalizing ns with
  | nil =>
    cases ns with
    | nil => simp [pathOf, Lib.hasPrefix]
    | cons n ns => rw [pathOf_cons]; simp [pathOf, Lib.hasPrefix]
  | cons m ms ih =>
    cases ns with
    | nil => simp [pathOf, Lib.hasPrefix]
    | cons n ns =>
      rw [pathOf_cons, pathOf_cons, List.cons_append, hp_cons]
      have hS : pathOf ns = [] ∨ ∃ s, pathOf ns = 47 :: s := by
        cases ns with
        | nil => left; rfl
        | cons a t => right; exact ⟨_, pathOf_cons a t⟩
      have hT : ∃ T, pathOf ms ++ [47] = 47 :: T := by
        cases ms with
        | nil => exact ⟨[], rfl⟩
        | cons a t => exact ⟨_, by rw [pathOf_cons, List.cons_append]⟩
      obtain ⟨T, hT⟩ := hT
      have ih' := ih ns (fun x hx => hn x (by simp [hx])) (fun x hx => hm x (by simp [hx]))
      rw [hT] at ih'
      rw [List.append_assoc, hT, hp_name n m _ _ (hn n (by simp)) (hm m (by simp)) hS, ih']
      simp only [List.length_cons, List.take_succ_cons]
      rw [List.cons_beq_cons]
      cases n == m <;> simp

/-- What stands beneath: by the names. -/
def underN (ns ms : List (List UInt8)) : Bool := decide (ms.length < ns.length) && (ns.take ms.length == ms)

theorem underB_eq {p a : List UInt8} {ns ms : List (List UInt8)} (h1 : splitP p = some ns) (h2 : splitP a = some ms) : underB p a = underN ns ms := by
  have e1 : splitL p = ns := by rw [splitL, h1]; rfl
  have e2 : splitL a = ms := by rw [splitL, h2]; rfl
  rw [underB, e1, e2, underN]
  by_cases hm : ms = []
  · subst hm
    cases ns with
    | nil => rfl
    | cons n ns => simp
  · rw [if_neg hm]
    obtain ⟨pa, hma, _, _⟩ := splitP_path h2 hm
    by_cases hn : ns = []
    · subst hn
      have hp : p = [47] := by
        unfold splitP at h1
        split at h1
        · assumption
        · split at h1
          · exact absurd (Option.some.inj h1) (parts_ne _)
          · cases h1
      obtain ⟨m, t, rfl⟩ : ∃ m t, ms = m :: t := by
        cases ms with
        | nil => exact absurd rfl hm
        | cons m t => exact ⟨m, t, rfl⟩
      rw [hp, pa, pathOf_cons]
      simp only [List.cons_append, hp_cons, List.append_assoc]
      cases hh : m ++ (pathOf t ++ [47]) with
      | nil => simp at hh
      | cons x y => simp [Lib.hasPrefix]
    · obtain ⟨pp, hpn, _, _⟩ := splitP_path h1 hn
      have := hp_path ns ms hpn hma
      rw [← pp, ← pa] at this
      exact this


set_option maxHeartbeats 1000000 in
set_option maxRecDepth 100000 in
theorem ref_join (v : Value) (ns : List (List UInt8)) (w : World) (hT : Tabs w) (hv : StrsAt w v ns) :
    Calls Tryd.prog 12 #[v] w (JoinPost ns w) := by
  obtain ⟨a, cap, rfl, hm, hc⟩ := hv
  by_cases h16 : 16 < ns.length
  · have HN := Lib.hid (joinP_no1 h16)
    clear hc
    unfold maxLen at hm
    generalize hn : ns.length = n at *
    clear hn
    go_enter Tryd.func12, Tryd.ntmps12
    go_wp2
    go_ret2
    exact joinPost_no HN.out rfl (Below.refl _ _)
  · have HC := Lib.hid hc
    have h16' : ns.length ≤ 16 := by omega
    clear hc h16 hm
    go_enter Tryd.func12, Tryd.ntmps12
    go_wp2
    go_loopw [4, 5] (fun s4 s5 wr => ∃ (k : Nat) (P : ByteArray), k ≤ ns.length ∧ s5 = .int .i64 k ∧ s4 = .string P ∧ P.data.toList = pathOf (ns.take k) ∧ P.size ≤ 256 * k ∧ (∀ j x, j < k → ns[j]? = some x → chk x = true) ∧ Below w.heap.size w wr) (fun _ s5 _ => ns.length - (intOf s5).toNat)
    case atStart => exact ⟨0, ⟨#[]⟩, by omega, rfl, rfl, rfl, by simp [ByteArray.size], fun j x h => by omega, Below.refl _ _⟩
    case round =>
      obtain ⟨k, P, hk, rfl, rfl, hP, hPs, hall, hbw⟩ := hrel
      have HP := Lib.hid hP
      have HA := Lib.hid hall
      clear hP hall
      by_cases hlt : k < ns.length
      · obtain ⟨x, hkx⟩ : ∃ x, ns[k]? = some x := ⟨ns[k], List.getElem?_eq_getElem hlt⟩
        have hmem := List.mem_of_getElem? hkx
        obtain ⟨b, o, rfl, hb0, hcl⟩ := HC.out (List.ne_nil_of_mem hmem)
        have hc1 : wr.cell? ⟨b, o + k, none⟩ = some (sv x) := by rw [hbw.cell (p := ⟨b, o + k, none⟩) hb0]; exact hcl k x hkx
        have hb1 : b < wr.heap.size := Nat.lt_of_lt_of_le hb0 hbw.size
        unfold sv at hc1
        have hch := ref_check ⟨x.toArray⟩ wr (hT.below hbw)
        rw [ba_data] at hch
        have HKX := Lib.hid hkx
        clear hcl hkx
        cases hcb : chk x with
        | false =>
          have e1 : chkN x = 10 := by rw [chkN, hcb]; rfl
          rw [e1] at hch
          have HN := Lib.hid (joinP_no2 hmem hcb)
          have HCH := Lib.hid hch
          clear e1 hcb hch hmem
          go_wp2_with fail
          refine HCH.out.mono ?_
          rintro e w3 ⟨rfl, hb3⟩
          go_wp2
          go_ret2
          exact joinPost_no HN.out rfl (hbw.trans (hb3.mono hbw.size))
        | true =>
          have e1 : chkN x = 0 := by rw [chkN, hcb]; rfl
          rw [e1] at hch
          have HCB := Lib.hid hcb
          have HCH := Lib.hid hch
          have hx255 := chk_len hcb
          clear e1 hcb hch hmem
          go_wp2_with fail
          refine HCH.out.mono ?_
          rintro e w3 ⟨rfl, hb3⟩
          have hc3 : w3.cell? ⟨b, o + k, none⟩ = some (.string ⟨x.toArray⟩) := by rw [hb3.cell (p := ⟨b, o + k, none⟩) hb1]; exact hc1
          go_wp2
          go_roundw
          case rel =>
            refine ⟨k + 1, _, by omega, by go_num, rfl, ?_, ?_, ?_, hbw.trans (hb3.mono hbw.size)⟩
            · have ht : ns.take (k + 1) = ns.take k ++ [x] := by
                rw [List.take_add_one, HKX.out]; rfl
              rw [ht, pathOf_snoc, ← HP.out]
              simp [ByteArray.data_append]
            · rw [ByteArray.size_append, ByteArray.size_append, Lib.size_eq ⟨x.toArray⟩, ba_data]
              show _ + 1 + _ ≤ _
              omega
            · intro j y hj hjy
              by_cases e : j = k
              · subst e; rw [HKX.out] at hjy; cases hjy; exact HCB.out
              · exact HA.out j y (by omega) hjy
          case measure => simp [intOf]; omega
      · have hkn : k = ns.length := by omega
        have hP := HP.out
        rw [hkn, List.take_length] at hP
        have hfin : joinP ns = some (if pathOf ns = [] then [47] else pathOf ns) := joinP_yes h16' (by
          rw [List.all_eq_true]
          intro x hx
          obtain ⟨j, hj, e⟩ := List.getElem_of_mem hx
          exact HA.out j x (by omega) (by rw [List.getElem?_eq_getElem hj, e]))
        by_cases he : pathOf ns = []
        · have hpe : P.toList.isEmpty = true := by rw [Lib.toList_data, hP, he]; rfl
          rw [if_pos he] at hfin
          have HF := Lib.hid hfin
          clear hfin he hP
          go_wp2
          go_ret2
          exact ⟨by rw [joinE, joinT, HF.out]; rfl, hbw⟩
        · have hpe : P.toList.isEmpty = false := by
            rw [Lib.toList_data, hP]
            cases h : pathOf ns with
            | nil => exact absurd h he
            | cons _ _ => rfl
          rw [if_neg he, ← hP] at hfin
          have HF := Lib.hid hfin
          clear hfin he hP
          go_wp2
          go_ret2
          exact ⟨by rw [joinE, joinT, HF.out, Option.getD_some, sv_data]; rfl, hbw⟩

set_option maxHeartbeats 2000000 in
set_option maxRecDepth 100000 in
theorem ref_under (p a : ByteArray) (w : World) (hT : Tabs w) (hp : p.size ≤ 4611686018427387904) (ha : a.size ≤ 4611686018427387904) :
    Calls Tryd.prog 16 #[.string p, .string a] w fun e w' => e = .returned (.tuple #[.bool (underR p.data.toList a.data.toList).1, .int .i64 (underR p.data.toList a.data.toList).2]) ∧ Below w.heap.size w w' := by
  have h1 := ref_split p w hT hp
  have h2 := fun w hT => ref_split a w hT ha
  have H2 := Lib.hid h2
  clear h2
  go_enter Tryd.func16, Tryd.ntmps16
  go_wp2_with fail
  refine h1.mono ?_
  rintro e w1 ⟨v1, rfl, ho1, hb1⟩
  obtain ⟨a1, c1, rfl⟩ := len_of_owns ho1
  have hs1 := StrsAt.of_owns ho1
  go_wp2_with fail
  refine (H2.out _ (hT.below hb1)).mono ?_
  rintro e w2 ⟨v2, rfl, ho2, hb2⟩
  obtain ⟨a2, c2, rfl⟩ := len_of_owns ho2
  have hs2 := StrsAt.of_owns ho2
  have hs1' := hs1.below hb2
  have hb := hb1.trans (hb2.mono hb1.size)
  clear ho1 ho2 h1 hb1 hb2 H2 hs1
  cases hq1 : splitP p.data.toList with
  | none =>
    have e1 : splitE p.data.toList = 10 := by rw [splitE, hq1]; rfl
    have HF : Hid (underR p.data.toList a.data.toList = (false, 10)) := Lib.hid (by rw [underR, hq1]; rfl)
    rw [e1]
    clear hq1 e1 hs2 hs1'
    go_wp2
    go_ret2
    exact ⟨by rw [HF.out]; rfl, hb⟩
  | some ns =>
    have e1 : splitE p.data.toList = 0 := by rw [splitE, hq1]; rfl
    rw [e1]
    cases hq2 : splitP a.data.toList with
    | none =>
      have e2 : splitE a.data.toList = 10 := by rw [splitE, hq2]; rfl
      have HF : Hid (underR p.data.toList a.data.toList = (false, 10)) := Lib.hid (by rw [underR, hq1, hq2]; rfl)
      rw [e2]
      clear hq1 hq2 e1 e2 hs2 hs1'
      go_wp2
      go_ret2
      exact ⟨by rw [HF.out]; rfl, hb⟩
    | some ms =>
      have e2 : splitE a.data.toList = 0 := by rw [splitE, hq2]; rfl
      have e3 : splitL p.data.toList = ns := by rw [splitL, hq1]; rfl
      have e4 : splitL a.data.toList = ms := by rw [splitL, hq2]; rfl
      rw [e2]
      have HF : Hid (underR p.data.toList a.data.toList = (underN ns ms, 0)) := Lib.hid (by rw [underR, hq1, hq2, underB_eq hq1 hq2]; rfl)
      rw [e3] at hs1' ⊢
      rw [e4] at hs2 ⊢
      obtain ⟨a1', c1', e5, hl1, hA⟩ := hs1'
      obtain ⟨a2', c2', e6, hl2, hB⟩ := hs2
      obtain ⟨rfl, rfl⟩ : a1 = a1' ∧ c1 = c1' := by injection e5 with x y z; exact ⟨x, z⟩
      obtain ⟨rfl, rfl⟩ : a2 = a2' ∧ c2 = c2' := by injection e6 with x y z; exact ⟨x, z⟩
      unfold maxLen at hl1 hl2
      have HA := Lib.hid hA; have HB := Lib.hid hB
      clear hq1 hq2 e1 e2 e3 e4 e5 e6 hA hB
      by_cases hle : ns.length ≤ ms.length
      · have HU : Hid (underN ns ms = false) := Lib.hid (by rw [underN]; have : decide (ms.length < ns.length) = false := by { simp; omega }
                                                            rw [this]; rfl)
        go_wp2
        go_ret2
        exact ⟨by rw [HF.out, HU.out]; rfl, hb⟩
      · have hgt : ms.length < ns.length := by omega
        clear hle
        go_wp2
        go_loopw [10] (fun s10 wr => ∃ k : Nat, k ≤ ms.length ∧ s10 = .int .i64 k ∧ (∀ j : Nat, j < k → ns[j]? = ms[j]?) ∧ Below w2.heap.size w2 wr) (fun s10 _ => ms.length - (intOf s10).toNat)
        case atStart => exact ⟨0, by omega, rfl, fun j h => by omega, Below.refl _ _⟩
        case round =>
          obtain ⟨k, hk, rfl, hall, hbw⟩ := hrel
          have HK := Lib.hid hall
          clear hall
          by_cases hlt : k < ms.length
          · obtain ⟨x, hx⟩ : ∃ x, ns[k]? = some x := ⟨ns[k], List.getElem?_eq_getElem (by omega)⟩
            obtain ⟨y, hy⟩ : ∃ y, ms[k]? = some y := ⟨ms[k], List.getElem?_eq_getElem hlt⟩
            obtain ⟨ba, oa, rfl, hba, hca⟩ := HA.out (List.ne_nil_of_mem (List.mem_of_getElem? hx))
            obtain ⟨bb, ob, rfl, hbb, hcb⟩ := HB.out (List.ne_nil_of_mem (List.mem_of_getElem? hy))
            have c1' : wr.cell? ⟨ba, oa + k, none⟩ = some (sv x) := by rw [hbw.cell (p := ⟨ba, oa + k, none⟩) hba]; exact hca k x hx
            have c2' : wr.cell? ⟨bb, ob + k, none⟩ = some (sv y) := by rw [hbw.cell (p := ⟨bb, ob + k, none⟩) hbb]; exact hcb k y hy
            have HX := Lib.hid hx; have HY := Lib.hid hy
            clear hx hy hca hcb
            unfold sv at c1' c2'
            by_cases hxy : x = y
            · subst hxy
              go_wp2
              go_quiet (fail)
              go_wp2
              go_roundw
              case rel =>
                refine ⟨k + 1, by omega, by go_num, fun j hj => ?_, below_drewN hbw _⟩
                by_cases e : j = k
                · subst e; rw [HX.out, HY.out]
                · exact HK.out j (by omega)
              case measure => simp [intOf]; omega
            · have hne : (x == y) = false := by simpa using hxy
              have HU : Hid (underN ns ms = false) := Lib.hid (by
                have : (ns.take ms.length == ms) = false := by
                  rw [beq_eq_false_iff_ne]; intro e
                  have := congrArg (fun l => l[k]?) e
                  simp only [List.getElem?_take_of_lt hlt, HX.out, HY.out] at this
                  exact hxy (Option.some.inj this)
                rw [underN, this]; simp)
              clear hxy
              go_wp2
              go_quiet (fail)
              go_wp2
              go_ret2
              exact ⟨by rw [HF.out, HU.out]; rfl, hb.trans ((below_drewN hbw _).mono hb.size)⟩
          · have HU : Hid (underN ns ms = true) := Lib.hid (by
              have h1 : decide (ms.length < ns.length) = true := by simpa using hgt
              have h2 : (ns.take ms.length == ms) = true := by
                rw [beq_iff_eq]; apply List.ext_getElem?; intro j
                by_cases hj : j < ms.length
                · rw [List.getElem?_take_of_lt hj]; exact HK.out j (by omega)
                · rw [List.getElem?_eq_none (by simp; omega), List.getElem?_eq_none (by omega)]
              rw [underN, h1, h2]; rfl)
            go_wp2
            go_ret2
            exact ⟨by rw [HF.out, HU.out]; rfl, hb.trans (hbw.mono hb.size)⟩
end Go.Proofs.YtofdhhemdoodaaaDoor.Nm
