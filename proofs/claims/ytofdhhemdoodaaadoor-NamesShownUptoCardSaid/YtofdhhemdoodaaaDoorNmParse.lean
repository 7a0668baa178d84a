/-
  The contracts of ParseUint to the base 16: at every text.
-/
import Derived.Test.YtofdhhemdoodaaaDoorNmHex
import Derived.Test.YtofdhhemdoodaaaDoorShelf
import Derived.Lib.ConvBytes
import Derived.Lib.IfaceEq
import Derived.WalkKit
import Derived.BigCall
import Derived.BigGuard
namespace Go.Proofs.YtofdhhemdoodaaaDoor.Nm
open Go.RowKit

/-- A digit to the base 16, large or small. -/
def dig (c : UInt8) : Option Nat :=
  if 48 ≤ c.toNat ∧ c.toNat ≤ 57 then some (c.toNat - 48)
  else if 97 ≤ c.toNat ||| 32 ∧ c.toNat ||| 32 ≤ 102 then some ((c.toNat ||| 32) - 87)
  else none
/-- The number that digits say, if it is at most m. -/
def pu (m : Nat) : Nat → List UInt8 → Option Nat
  | n, [] => some n
  | n, c :: l => match dig c with | none => none | some d => if m < 16 * n + d then none else pu m (16 * n + d) l
def puN (m : Nat) (l : List UInt8) : Option Nat := if l = [] then none else pu m 0 l

theorem or32 (c : UInt8) : bits .or .u8 (c.toNat : Int) 32 = ((c.toNat ||| 32 : Nat) : Int) := by
  have : ∀ q : Fin 256, bits .or .u8 (q.1 : Int) 32 = ((q.1 ||| 32 : Nat) : Int) := by decide +kernel
  exact this ⟨c.toNat, c.toNat_lt⟩
theorem or32_lt (c : UInt8) : c.toNat ||| 32 < 256 := Nat.or_lt_two_pow (n := 8) c.toNat_lt (by omega)

theorem lower_any (c : Int) (w : World) : Calls Tryd.prog 63 #[.int .u8 c] w fun e w' => e = .returned (.int .u8 (bits .or .u8 c 32)) ∧ w' = w := by
  go_enter Tryd.func63, Tryd.ntmps63
  go_wp2
  go_ret
  exact ⟨rfl, rfl⟩

/-- What a call answers that reads a number. -/
def PuRet (o : Option Nat) (e : Ending) : Prop :=
  match o with
  | some n => e = .returned (.tuple #[.int .u64 n, .nilIface])
  | none => ∃ v k : Int, e = .returned (.tuple #[.int .u64 v, .iface 79 (.int .i64 k)]) ∧ (k = 1 ∨ k = 2)

theorem puRet_none {o : Option Nat} (h : o = none) (v k : Int) (hk : k = 1 ∨ k = 2) : PuRet o (.returned (.tuple #[.int .u64 v, .iface 79 (.int .i64 k)])) := by
  subst h; exact ⟨v, k, rfl, hk⟩
theorem puRet_some {o : Option Nat} {n : Nat} (h : o = some n) : PuRet o (.returned (.tuple #[.int .u64 n, .nilIface])) := by
  subst h; rfl

set_option maxRecDepth 100000 in
theorem pu_empty (s : ByteArray) (hs : s.data.toList = []) (bs : Int) (w : World) :
    Calls Tryd.prog 53 #[.string s, .int .i64 16, .int .i64 bs] w fun e w' => PuRet none e ∧ w' = w := by
  have e0 : s = ⟨#[]⟩ := by cases s; simp at hs; rw [hs]
  subst e0
  go_enter Tryd.func53, Tryd.ntmps53
  go_wp2
  go_ret2
  exact ⟨⟨0, 2, rfl, Or.inr rfl⟩, rfl⟩

set_option maxHeartbeats 32000000 in
set_option maxRecDepth 100000 in
theorem pu_inner (t : ByteArray) (hne : t.size ≠ 0) (hmax : t.size ≤ 9223372036854775806) (w : World) (bs : Int) (mv : Nat) (hb : (bs = 8 ∧ mv = 255) ∨ (bs = 31 ∧ mv = 2147483647)) :
    Calls Tryd.prog 53 #[.string t, .int .i64 16, .int .i64 bs] w fun e w' => PuRet (pu mv 0 t.data.toList) e ∧ w' = Lib.bytesWorld w 5 t := by
  have hemp : t.toList.isEmpty = false := by
    rw [← decide_eq_emptyBytes]
    exact decide_eq_false (fun h => hne (by rw [h]; rfl))
  have hcv := Lib.run_convert_string_bytes (P := Tryd.prog) w 9 49 5 t Tryd.underlying9 Tryd.underlying49 Tryd.underlying5
  have hB : ∀ j, j < t.size → (Lib.bytesWorld w 5 t).cell? ⟨w.heap.size, j, none⟩ = some (.int .u8 (t.data.toList.getD j 0).toNat) := fun j hj => Lib.bytesWorld_cell w 5 t j hj
  obtain ⟨W1, hW1⟩ : ∃ W1, W1 = Lib.bytesWorld w 5 t := ⟨_, rfl⟩
  rw [← hW1] at hcv hB ⊢
  clear hW1
  obtain ⟨L, hL⟩ : ∃ L, L = t.data.toList := ⟨_, rfl⟩
  have hLn : L.length = t.size := by rw [hL, Lib.size_eq]
  rw [← hL] at hB ⊢
  clear hL
  have HLN := Lib.hid hLn
  clear hLn
  have hmv8 : IntKind.u64.wrap (IntKind.u64.wrap 256 - 1) = 255 := by rw [IntKind.wrap_u64, IntKind.wrap_u64]; decide
  have hmv31 : IntKind.u64.wrap (IntKind.u64.wrap 2147483648 - 1) = 2147483647 := by rw [IntKind.wrap_u64, IntKind.wrap_u64]; decide
  go_enter Tryd.func53, Tryd.ntmps53
  rcases hb with ⟨rfl, rfl⟩ | ⟨rfl, rfl⟩
  · go_wp2
    go_loop [12, 13, 101] (fun vu vn vi => ∃ (k acc : Nat) (a : Int), vu = .bool false ∧ vn = .int .u64 a ∧ vi = .int .i64 k ∧ k ≤ t.size ∧ Hid (a = (acc : Int) ∧ acc ≤ 255 ∧ pu 255 0 L = pu 255 acc (L.drop k)))
      (fun _ _ vi => t.size - (intOf vi).toNat)
    case atStart => exact ⟨0, 0, 0, rfl, rfl, rfl, by omega, rfl, by omega, rfl⟩
    case round =>
      obtain ⟨k, acc, a, rfl, rfl, rfl, hk, hh⟩ := hrel
      obtain ⟨ha, hacc, hdec⟩ := hh.out
      clear hh
      have a0 : 0 ≤ a := by omega
      have a1 : a ≤ 255 := by omega
      by_cases hkn : k < t.size
      · have hc := hB k hkn
        have hln := HLN.out
        have hdrop : L.drop k = L[k]'(by omega) :: L.drop (k + 1) := List.drop_eq_getElem_cons (by omega)
        have hget : L.getD k 0 = L[k]'(by omega) := by simp [List.getD, List.getElem?_eq_getElem (show k < L.length by omega)]
        rw [hdrop] at hdec
        rw [hget] at hc
        generalize L[k]'(by omega) = c at hc hdec
        have hc256 : c.toNat < 256 := c.toNat_lt
        clear hB hdrop hget hln
        rw [pu] at hdec
        by_cases hdig : 48 ≤ c.toNat ∧ c.toNat ≤ 57
        · have hdg : dig c = some (c.toNat - 48) := by rw [dig, if_pos hdig]
          rw [hdg] at hdec
          dsimp only at hdec
          obtain ⟨hd0, hd1⟩ := hdig
          by_cases hov : 255 < 16 * acc + (c.toNat - 48)
          · rw [if_pos hov] at hdec
            have iov : 255 < a * 16 + ((c.toNat : Int) - 48) := by omega
            have HD := Lib.hid hdec
            clear hov hacc ha hdec hdg
            go_wp2
            go_ret2
            exact ⟨puRet_none HD.out _ _ (by decide), rfl⟩
          · rw [if_neg hov] at hdec
            have HN : Hid (a * 16 + ((c.toNat : Int) - 48) = ((16 * acc + (c.toNat - 48) : Nat) : Int) ∧ 16 * acc + (c.toNat - 48) ≤ 255 ∧ pu 255 0 L = pu 255 (16 * acc + (c.toNat - 48)) (L.drop (k + 1))) := Lib.hid ⟨by omega, by omega, hdec⟩
            have iov : a * 16 + ((c.toNat : Int) - 48) ≤ 255 := by omega
            clear hov hacc ha hdec hdg
            go_wp2
            refine ⟨⟨k + 1, 16 * acc + (c.toNat - 48), a * 16 + ((c.toNat : Int) - 48), rfl, (by first | rfl | (congr 1; omega)), (by first | rfl | (congr 1; omega)), by omega, HN⟩, by simp [intOf]; omega⟩
        · have hlow : ∀ W, Calls Tryd.prog 63 #[.int .u8 (c.toNat : Int)] W fun e w' => e = .returned (.int .u8 ((c.toNat ||| 32 : Nat) : Int)) ∧ w' = W := fun W => by
            have := lower_any (c.toNat : Int) W; rw [or32] at this; exact this
          have hlo256 := or32_lt c
          have hdg : dig c = if 97 ≤ c.toNat ||| 32 ∧ c.toNat ||| 32 ≤ 102 then some ((c.toNat ||| 32) - 87) else none := by rw [dig, if_neg hdig]
          rw [hdg] at hdec
          have h95 : c.toNat = 95 → c.toNat ||| 32 = 127 := fun e => by rw [e]; rfl
          generalize c.toNat ||| 32 = lo at hlow hlo256 hdec h95
          clear hdg
          have HL := Lib.hid hlow
          have H95 := Lib.hid h95
          clear hlow h95
          by_cases hgd : 97 ≤ lo ∧ lo ≤ 102
          · rw [if_pos hgd] at hdec
            dsimp only at hdec
            obtain ⟨hd0, hd1⟩ := hgd
            have e95 : ((c.toNat : Int) == 95) = false := by rw [beq_eq_false_iff_ne]; intro e; have := H95.out (by omega); omega
            by_cases hov : 255 < 16 * acc + (lo - 87)
            · rw [if_pos hov] at hdec
              have iov : 255 < a * 16 + ((lo : Int) - 97 + 10) := by omega
              have HD := Lib.hid hdec
              clear hov hacc ha hdec
              rcases (by omega : c.toNat < 48 ∨ 57 < c.toNat) with hcl | hcl
              all_goals
                clear hdig
                go_wp2_with (go_at_call 63; refine (HL.out _).mono ?_; rintro e w' ⟨rfl, rfl⟩)
                go_ret2
                exact ⟨puRet_none HD.out _ _ (by decide), rfl⟩
            · rw [if_neg hov] at hdec
              have HN : Hid (a * 16 + ((lo : Int) - 97 + 10) = ((16 * acc + (lo - 87) : Nat) : Int) ∧ 16 * acc + (lo - 87) ≤ 255 ∧ pu 255 0 L = pu 255 (16 * acc + (lo - 87)) (L.drop (k + 1))) := Lib.hid ⟨by omega, by omega, hdec⟩
              have iov : a * 16 + ((lo : Int) - 97 + 10) ≤ 255 := by omega
              clear hov hacc ha hdec
              rcases (by omega : c.toNat < 48 ∨ 57 < c.toNat) with hcl | hcl
              all_goals
                clear hdig
                go_wp2_with (go_at_call 63; refine (HL.out _).mono ?_; rintro e w' ⟨rfl, rfl⟩)
                refine ⟨⟨k + 1, 16 * acc + (lo - 87), a * 16 + ((lo : Int) - 97 + 10), rfl, (by first | rfl | (congr 1; omega)), (by first | rfl | (congr 1; omega)), by omega, HN⟩, by simp [intOf]; omega⟩
          · rw [if_neg hgd] at hdec
            dsimp only at hdec
            have HD := Lib.hid hdec
            clear hacc ha hdec
            by_cases e95 : c.toNat = 95
            · have e127 := H95.out e95
              subst e127
              have hc95 : (c.toNat : Int) = 95 := by omega
              have hl95 := HL.out
              rw [hc95] at hc hl95
              have HL9 := Lib.hid hl95
              clear hl95 hc95 e95 hc256 hdig hgd hlo256
              go_wp2_with (go_at_call 63; refine (HL9.out _).mono ?_; rintro e w' ⟨rfl, rfl⟩)
              go_ret2
              exact ⟨puRet_none HD.out _ _ (by decide), rfl⟩
            · have ec : ((c.toNat : Int) == 95) = false := by rw [beq_eq_false_iff_ne]; omega
              rcases (by omega : c.toNat < 48 ∨ 57 < c.toNat) with hcl | hcl
              all_goals
                clear hdig e95
                rcases (by omega : lo < 97 ∨ (103 ≤ lo ∧ lo ≤ 122) ∨ 122 < lo) with hl | ⟨hl, hl2⟩ | hl
              all_goals
                clear hgd
                go_wp2_with (go_at_call 63; refine (HL.out _).mono ?_; rintro e w' ⟨rfl, rfl⟩)
                go_ret2
                exact ⟨puRet_none HD.out _ _ (by decide), rfl⟩
      · have hkk : k = t.size := by omega
        subst hkk
        have hF : pu 255 acc (L.drop t.size) = some acc := by rw [List.drop_eq_nil_of_le (by have := HLN.out; omega)]; rfl
        rw [hF] at hdec
        have HD := Lib.hid hdec
        have HA := Lib.hid ha
        clear hacc hF a0 a1 hdec ha
        go_wp2
        go_ret2
        exact ⟨HA.out ▸ puRet_some HD.out, rfl⟩
  · go_wp2
    go_loop [12, 13, 101] (fun vu vn vi => ∃ (k acc : Nat) (a : Int), vu = .bool false ∧ vn = .int .u64 a ∧ vi = .int .i64 k ∧ k ≤ t.size ∧ Hid (a = (acc : Int) ∧ acc ≤ 2147483647 ∧ pu 2147483647 0 L = pu 2147483647 acc (L.drop k)))
      (fun _ _ vi => t.size - (intOf vi).toNat)
    case atStart => exact ⟨0, 0, 0, rfl, rfl, rfl, by omega, rfl, by omega, rfl⟩
    case round =>
      obtain ⟨k, acc, a, rfl, rfl, rfl, hk, hh⟩ := hrel
      obtain ⟨ha, hacc, hdec⟩ := hh.out
      clear hh
      have a0 : 0 ≤ a := by omega
      have a1 : a ≤ 2147483647 := by omega
      by_cases hkn : k < t.size
      · have hc := hB k hkn
        have hln := HLN.out
        have hdrop : L.drop k = L[k]'(by omega) :: L.drop (k + 1) := List.drop_eq_getElem_cons (by omega)
        have hget : L.getD k 0 = L[k]'(by omega) := by simp [List.getD, List.getElem?_eq_getElem (show k < L.length by omega)]
        rw [hdrop] at hdec
        rw [hget] at hc
        generalize L[k]'(by omega) = c at hc hdec
        have hc256 : c.toNat < 256 := c.toNat_lt
        clear hB hdrop hget hln
        rw [pu] at hdec
        by_cases hdig : 48 ≤ c.toNat ∧ c.toNat ≤ 57
        · have hdg : dig c = some (c.toNat - 48) := by rw [dig, if_pos hdig]
          rw [hdg] at hdec
          dsimp only at hdec
          obtain ⟨hd0, hd1⟩ := hdig
          by_cases hov : 2147483647 < 16 * acc + (c.toNat - 48)
          · rw [if_pos hov] at hdec
            have iov : 2147483647 < a * 16 + ((c.toNat : Int) - 48) := by omega
            have HD := Lib.hid hdec
            clear hov hacc ha hdec hdg
            go_wp2
            go_ret2
            exact ⟨puRet_none HD.out _ _ (by decide), rfl⟩
          · rw [if_neg hov] at hdec
            have HN : Hid (a * 16 + ((c.toNat : Int) - 48) = ((16 * acc + (c.toNat - 48) : Nat) : Int) ∧ 16 * acc + (c.toNat - 48) ≤ 2147483647 ∧ pu 2147483647 0 L = pu 2147483647 (16 * acc + (c.toNat - 48)) (L.drop (k + 1))) := Lib.hid ⟨by omega, by omega, hdec⟩
            have iov : a * 16 + ((c.toNat : Int) - 48) ≤ 2147483647 := by omega
            clear hov hacc ha hdec hdg
            go_wp2
            refine ⟨⟨k + 1, 16 * acc + (c.toNat - 48), a * 16 + ((c.toNat : Int) - 48), rfl, (by first | rfl | (congr 1; omega)), (by first | rfl | (congr 1; omega)), by omega, HN⟩, by simp [intOf]; omega⟩
        · have hlow : ∀ W, Calls Tryd.prog 63 #[.int .u8 (c.toNat : Int)] W fun e w' => e = .returned (.int .u8 ((c.toNat ||| 32 : Nat) : Int)) ∧ w' = W := fun W => by
            have := lower_any (c.toNat : Int) W; rw [or32] at this; exact this
          have hlo256 := or32_lt c
          have hdg : dig c = if 97 ≤ c.toNat ||| 32 ∧ c.toNat ||| 32 ≤ 102 then some ((c.toNat ||| 32) - 87) else none := by rw [dig, if_neg hdig]
          rw [hdg] at hdec
          have h95 : c.toNat = 95 → c.toNat ||| 32 = 127 := fun e => by rw [e]; rfl
          generalize c.toNat ||| 32 = lo at hlow hlo256 hdec h95
          clear hdg
          have HL := Lib.hid hlow
          have H95 := Lib.hid h95
          clear hlow h95
          by_cases hgd : 97 ≤ lo ∧ lo ≤ 102
          · rw [if_pos hgd] at hdec
            dsimp only at hdec
            obtain ⟨hd0, hd1⟩ := hgd
            have e95 : ((c.toNat : Int) == 95) = false := by rw [beq_eq_false_iff_ne]; intro e; have := H95.out (by omega); omega
            by_cases hov : 2147483647 < 16 * acc + (lo - 87)
            · rw [if_pos hov] at hdec
              have iov : 2147483647 < a * 16 + ((lo : Int) - 97 + 10) := by omega
              have HD := Lib.hid hdec
              clear hov hacc ha hdec
              rcases (by omega : c.toNat < 48 ∨ 57 < c.toNat) with hcl | hcl
              all_goals
                clear hdig
                go_wp2_with (go_at_call 63; refine (HL.out _).mono ?_; rintro e w' ⟨rfl, rfl⟩)
                go_ret2
                exact ⟨puRet_none HD.out _ _ (by decide), rfl⟩
            · rw [if_neg hov] at hdec
              have HN : Hid (a * 16 + ((lo : Int) - 97 + 10) = ((16 * acc + (lo - 87) : Nat) : Int) ∧ 16 * acc + (lo - 87) ≤ 2147483647 ∧ pu 2147483647 0 L = pu 2147483647 (16 * acc + (lo - 87)) (L.drop (k + 1))) := Lib.hid ⟨by omega, by omega, hdec⟩
              have iov : a * 16 + ((lo : Int) - 97 + 10) ≤ 2147483647 := by omega
              clear hov hacc ha hdec
              rcases (by omega : c.toNat < 48 ∨ 57 < c.toNat) with hcl | hcl
              all_goals
                clear hdig
                go_wp2_with (go_at_call 63; refine (HL.out _).mono ?_; rintro e w' ⟨rfl, rfl⟩)
                refine ⟨⟨k + 1, 16 * acc + (lo - 87), a * 16 + ((lo : Int) - 97 + 10), rfl, (by first | rfl | (congr 1; omega)), (by first | rfl | (congr 1; omega)), by omega, HN⟩, by simp [intOf]; omega⟩
          · rw [if_neg hgd] at hdec
            dsimp only at hdec
            have HD := Lib.hid hdec
            clear hacc ha hdec
            by_cases e95 : c.toNat = 95
            · have e127 := H95.out e95
              subst e127
              have hc95 : (c.toNat : Int) = 95 := by omega
              have hl95 := HL.out
              rw [hc95] at hc hl95
              have HL9 := Lib.hid hl95
              clear hl95 hc95 e95 hc256 hdig hgd hlo256
              go_wp2_with (go_at_call 63; refine (HL9.out _).mono ?_; rintro e w' ⟨rfl, rfl⟩)
              go_ret2
              exact ⟨puRet_none HD.out _ _ (by decide), rfl⟩
            · have ec : ((c.toNat : Int) == 95) = false := by rw [beq_eq_false_iff_ne]; omega
              rcases (by omega : c.toNat < 48 ∨ 57 < c.toNat) with hcl | hcl
              all_goals
                clear hdig e95
                rcases (by omega : lo < 97 ∨ (103 ≤ lo ∧ lo ≤ 122) ∨ 122 < lo) with hl | ⟨hl, hl2⟩ | hl
              all_goals
                clear hgd
                go_wp2_with (go_at_call 63; refine (HL.out _).mono ?_; rintro e w' ⟨rfl, rfl⟩)
                go_ret2
                exact ⟨puRet_none HD.out _ _ (by decide), rfl⟩
      · have hkk : k = t.size := by omega
        subst hkk
        have hF : pu 2147483647 acc (L.drop t.size) = some acc := by rw [List.drop_eq_nil_of_le (by have := HLN.out; omega)]; rfl
        rw [hF] at hdec
        have HD := Lib.hid hdec
        have HA := Lib.hid ha
        clear hacc hF a0 a1 hdec ha
        go_wp2
        go_ret2
        exact ⟨HA.out ▸ puRet_some HD.out, rfl⟩
end Go.Proofs.YtofdhhemdoodaaaDoor.Nm
