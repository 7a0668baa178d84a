/-
  The contracts of Join, Under and Less.
-/
import Derived.Test.YtofdhhemdoodaaaDoorNmSplit
namespace Go.Proofs.YtofdhhemdoodaaaDoor.Nm
open Go.RowKit

/-- A list of texts as it lies in memory. -/
def StrsAt (w : World) (v : Value) (ns : List (List UInt8)) : Prop :=
  ∃ a cap, v = .slice a ns.length cap ∧ ns.length ≤ maxLen ∧ (ns ≠ [] → ∃ b o, a = some ⟨b, o, none⟩ ∧ b < w.heap.size ∧ ∀ (j : Nat) x, ns[j]? = some x → w.cell? ⟨b, o + j, none⟩ = some (sv x))

theorem StrsAt.below {w w' : World} {v : Value} {ns : List (List UInt8)} (h : StrsAt w v ns) (hb : Below w.heap.size w w') : StrsAt w' v ns := by
  obtain ⟨a, cap, rfl, hm, h⟩ := h
  refine ⟨a, cap, rfl, hm, fun hne => ?_⟩
  obtain ⟨b, o, rfl, hlt, hc⟩ := h hne
  exact ⟨b, o, rfl, Nat.lt_of_lt_of_le hlt hb.size, fun j x hj => by rw [hb.cell (p := ⟨b, o + j, none⟩) hlt]; exact hc j x hj⟩

theorem StrsAt.of_owns {w : World} {base : Nat} {v : Value} {ns : List (List UInt8)} (h : w.ownsRow base 9 1 v ns.length (ns.map sv)) : StrsAt w v ns := by
  obtain ⟨hl, h⟩ := h
  rcases h with ⟨rfl, h0⟩ | ⟨g, cap, cur, rfl, hg, hh, hn, hcap, hsz, ht⟩
  · have : ns = [] := by cases ns with | nil => rfl | cons a t => simp at h0
    subst this; exact ⟨none, 0, rfl, by simp, fun h => absurd rfl h⟩
  · refine ⟨_, _, rfl, Nat.le_trans hn hcap, fun _ => ⟨g, 0, rfl, ?_, ?_⟩⟩
    · by_cases h : g < w.heap.size
      · exact h
      · rw [Array.getElem?_eq_none (by omega)] at hh; cases hh
    · intro j x hj
      have hj' : j < ns.length := (List.getElem?_eq_some_iff.1 hj).1
      have e : cur[j]? = some (sv x) := by
        have := congrArg (fun l => l[j]?) ht
        simp only [List.getElem?_map, hj, Option.map_some] at this
        rw [List.getElem?_take_of_lt (by omega), Array.getElem?_toList] at this
        exact this
      simp only [World.cell?, hh, Nat.zero_add]
      simpa using e

theorem StrsAt.nil (w : World) : StrsAt w (.slice none 0 0) [] := ⟨none, 0, rfl, by simp, fun h => absurd rfl h⟩

theorem chk_len {l : List UInt8} (h : chk l = true) : l.length ≤ 255 := by
  simp only [chk, lenFine, Bool.and_eq_true, decide_eq_true_eq] at h; omega

theorem ba_data (x : List UInt8) : (⟨x.toArray⟩ : ByteArray).data.toList = x := by simp

theorem pathOf_snoc (ns : List (List UInt8)) (x : List UInt8) : pathOf (ns ++ [x]) = pathOf ns ++ (47 :: x) := by simp [pathOf]

def joinE (ns : List (List UInt8)) : Int := if (joinP ns).isSome then 0 else 10
def joinT (ns : List (List UInt8)) : List UInt8 := (joinP ns).getD []

theorem joinP_no1 {ns : List (List UInt8)} (h : 16 < ns.length) : joinP ns = none := by
  rw [joinP, if_neg]; simp; omega
theorem joinP_no2 {ns : List (List UInt8)} {x : List UInt8} (h : x ∈ ns) (hc : chk x = false) : joinP ns = none := by
  rw [joinP, if_neg]
  intro hh
  simp only [Bool.and_eq_true, List.all_eq_true] at hh
  have := hh.2 x h
  rw [hc] at this; cases this
theorem joinP_yes {ns : List (List UInt8)} (h1 : ns.length ≤ 16) (h2 : ns.all chk = true) : joinP ns = some (if pathOf ns = [] then [47] else pathOf ns) := by
  rw [joinP, if_pos]; simp only [h2, Bool.and_true]; simpa using h1

def JoinPost (ns : List (List UInt8)) (w : World) (e : Ending) (w' : World) : Prop :=
  e = .returned (.tuple #[sv (joinT ns), .int .i64 (joinE ns)]) ∧ Below w.heap.size w w'

theorem joinPost_no {ns : List (List UInt8)} {w w' : World} {e : Ending} (h : joinP ns = none) (he : e = .returned (.tuple #[.string ⟨#[]⟩, .int .i64 10])) (hb : Below w.heap.size w w') : JoinPost ns w e w' :=
  ⟨by rw [he, joinE, joinT, h]; rfl, hb⟩

set_option maxHeartbeats 1000000 in
set_option maxRecDepth 100000 in
theorem join_any (v : Value) (ns : List (List UInt8)) (w : World) (hv : StrsAt w v ns) (hsz : ∀ x ∈ ns, x.length ≤ maxLen) :
    Calls Tryd.prog 11 #[v] w (JoinPost ns w) := by
  have hv0 := hv
  obtain ⟨a, cap, rfl, hm, hc⟩ := hv
  by_cases h16 : 16 < ns.length
  · have HN := Lib.hid (joinP_no1 h16)
    have HV := Lib.hid hv0
    clear hc hv0
    generalize hn : ns.length = n at *
    clear hn
    go_enter Tryd.func11, Tryd.ntmps11
    go_wp2
    go_ret2
    exact joinPost_no HN.out rfl (Below.refl _ _)
  · have HC := Lib.hid hc
    have HV := Lib.hid hv0
    have HS := Lib.hid hsz
    have h16' : ns.length ≤ 16 := by omega
    clear hc hv0 hsz h16 hm
    go_enter Tryd.func11, Tryd.ntmps11
    go_wp2
    go_loopw [4, 13] (fun s4 s13 wr => ∃ (k : Nat) (P : ByteArray), k ≤ ns.length ∧ s13 = .int .i64 k ∧ s4 = .string P ∧ P.data.toList = pathOf (ns.take k) ∧ P.size ≤ 256 * k ∧ (∀ j x, j < k → ns[j]? = some x → chk x = true) ∧ Below w.heap.size w wr) (fun _ s13 _ => ns.length - (intOf s13).toNat)
    case atStart => exact ⟨0, ⟨#[]⟩, by omega, rfl, rfl, rfl, by simp [ByteArray.size], fun j x h => by omega, Below.refl _ _⟩
    case round =>
      obtain ⟨k, P, hk, rfl, rfl, hP, hPs, hall, hbw⟩ := hrel
      have HP := Lib.hid hP
      have HA := Lib.hid hall
      clear hP hall
      by_cases hlt : k < ns.length
      · obtain ⟨x, hkx⟩ : ∃ x, ns[k]? = some x := ⟨ns[k], List.getElem?_eq_getElem hlt⟩
        have hmem := List.mem_of_getElem? hkx
        obtain ⟨b, o, rfl, hb0, hcl⟩ := HC.out (List.ne_nil_of_mem hmem)
        have hc1 : wr.cell? ⟨b, o + k, none⟩ = some (sv x) := by rw [hbw.cell (p := ⟨b, o + k, none⟩) hb0]; exact hcl k x hkx
        unfold sv at hc1
        have hxs := HS.out x hmem
        have hch := check_any ⟨x.toArray⟩ wr (by rw [Lib.size_eq, ba_data]; exact hxs)
        rw [ba_data] at hch
        have HKX := Lib.hid hkx
        clear hcl hkx
        cases hcb : chk x with
        | false =>
          have e1 : chkN x = 10 := by rw [chkN, hcb]; rfl
          rw [e1] at hch
          have HN := Lib.hid (joinP_no2 hmem hcb)
          have HCH := Lib.hid hch
          clear e1 hcb hch hmem
          go_wp2_with fail
          refine HCH.out.mono ?_
          rintro e w3 ⟨rfl, hb3⟩
          go_wp2
          go_ret2
          exact joinPost_no HN.out rfl (hbw.trans (hb3.mono hbw.size))
        | true =>
          have e1 : chkN x = 0 := by rw [chkN, hcb]; rfl
          rw [e1] at hch
          have HCB := Lib.hid hcb
          have HCH := Lib.hid hch
          have hx255 := chk_len hcb
          clear e1 hcb hch hmem
          go_wp2_with fail
          refine HCH.out.mono ?_
          rintro e w3 ⟨rfl, hb3⟩
          go_wp2
          go_roundw
          case rel =>
            refine ⟨k + 1, _, by omega, by go_num, rfl, ?_, ?_, ?_, hbw.trans (hb3.mono hbw.size)⟩
            · have ht : ns.take (k + 1) = ns.take k ++ [x] := by
                rw [List.take_add_one, HKX.out]; rfl
              rw [ht, pathOf_snoc, ← HP.out]
              simp [ByteArray.data_append]
            · rw [ByteArray.size_append, ByteArray.size_append, Lib.size_eq ⟨x.toArray⟩, ba_data]
              show _ + (1 + _) ≤ _
              omega
            · intro j y hj hjy
              by_cases e : j = k
              · subst e; rw [HKX.out] at hjy; cases hjy; exact HCB.out
              · exact HA.out j y (by omega) hjy
          case measure => simp [intOf]; omega
      · have hkn : k = ns.length := by omega
        have hP := HP.out
        rw [hkn, List.take_length] at hP
        have hfin : joinP ns = some (if pathOf ns = [] then [47] else pathOf ns) := joinP_yes h16' (by
          rw [List.all_eq_true]
          intro x hx
          obtain ⟨j, hj, e⟩ := List.getElem_of_mem hx
          exact HA.out j x (by omega) (by rw [List.getElem?_eq_getElem hj, e]))
        by_cases he : pathOf ns = []
        · have hpe : P.toList.isEmpty = true := by rw [Lib.toList_data, hP, he]; rfl
          rw [if_pos he] at hfin
          have HF := Lib.hid hfin
          clear hfin he hP
          go_wp2
          go_ret2
          exact ⟨by rw [joinE, joinT, HF.out]; rfl, hbw⟩
        · have hpe : P.toList.isEmpty = false := by
            rw [Lib.toList_data, hP]
            cases h : pathOf ns with
            | nil => exact absurd h he
            | cons _ _ => rfl
          rw [if_neg he, ← hP] at hfin
          have HF := Lib.hid hfin
          clear hfin he hP
          go_wp2
          go_ret2
          exact ⟨by rw [joinE, joinT, HF.out, Option.getD_some, sv_data]; rfl, hbw⟩

set_option maxHeartbeats 1000000 in
theorem less_any (a b : ByteArray) (w : World) :
    Calls Tryd.prog 21 #[.string a, .string b] w fun e w' => e = .returned (.bool (Op.bytesLess a.toList b.toList)) ∧ w' = w := by
  go_enter Tryd.func21, Tryd.ntmps21
  go_wp2
  go_ret
  exact ⟨rfl, rfl⟩
end Go.Proofs.YtofdhhemdoodaaaDoor.Nm
