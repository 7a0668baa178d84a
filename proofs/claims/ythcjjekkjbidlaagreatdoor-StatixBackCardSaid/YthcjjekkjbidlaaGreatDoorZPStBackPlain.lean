import Derived.Test.YthcjjekkjbidlaaGreatDoorZPStDrop
import Derived.Test.YthcjjekkjbidlaaGreatDoorZPStSet
import Derived.Test.YthcjjekkjbidlaaGreatDoorZPStReg
set_option linter.unusedSimpArgs false
set_option linter.unusedVariables false
/-
  The plain law of StatixBack: the entries set last, set again from behind, are the same index.
-/
namespace Go.Proofs.YthcjjekkjbidlaaGreatDoor.St
open Go.RowKit Go.Proofs.YthcjjekkjbidlaaGreatDoor.Rf Go.Proofs.YthcjjekkjbidlaaGreatDoor.Rd Go.Proofs.YthcjjekkjbidlaaGreatDoor.Nm

theorem setX_ok {e : SE} {L : List SE} (hm : mayN e = 0) (hl : L.length < 65536) : setX e L = (0, insL e L) := by
  rw [setX, if_neg (by simp [hm]), if_neg (by rintro ⟨_, h⟩; omega)]
theorem setX_no {e : SE} {L : List SE} (hm : mayN e ≠ 0) : setX e L = (mayN e, L) := by rw [setX, if_pos hm]
/-- What number i of the list is as an entry. -/
def itF (its : List It) (i : Nat) : SE := ((its[i]?).map It.se).getD zeroS
/-- The index, and the map of last places, behind the first k items. -/
def b1 (its : List It) : Nat → List SE × MV Nat
  | 0 => ([], [])
  | k + 1 => match its[k]? with
    | some x => if mayN x.se = 0 then (insL x.se (b1 its k).1, putM (b1 its k).2 x.path k) else b1 its k
    | none => b1 its k
structure B1Ok (its : List It) (k : Nat) (L : List SE) (M : MV Nat) : Prop where
  srt : Srt L
  len : L.length ≤ k
  may : ∀ e ∈ L, mayN e = 0
  tz : toZ L = mapM' (itF its) M
  last : ∀ p j, getM M p = some j → j < k ∧ ∃ x, its[j]? = some x ∧ x.path = p ∧ mayN x.se = 0
theorem b1_ok (its : List It) : ∀ k, B1Ok its k (b1 its k).1 (b1 its k).2
  | 0 => ⟨List.Pairwise.nil, Nat.le_refl _, (fun _ h => by cases h), rfl, (fun p j h => by cases h)⟩
  | k + 1 => by
    have ih := b1_ok its k
    rw [b1]
    cases hx : its[k]? with
    | none => exact ⟨ih.srt, Nat.le_succ_of_le ih.len, ih.may, ih.tz, fun p j h => by obtain ⟨h1, h2⟩ := ih.last p j h; exact ⟨by omega, h2⟩⟩
    | some x =>
      dsimp only
      by_cases hm : mayN x.se = 0
      · rw [if_pos hm]
        refine ⟨insL_srt _ ih.srt, ?_, fun e he => ?_, ?_, fun p j h => ?_⟩
        · have := insL_length_le x.se (b1 its k).1; have := ih.len
          show (insL x.se (b1 its k).1).length ≤ k + 1
          omega
        · rcases mem_insL he with rfl | he
          · exact hm
          · exact ih.may e he
        · have hf : itF its k = x.se := by rw [itF, hx]; rfl
          rw [← toZ_put ih.srt, ih.tz, map_put, hf]
          rfl
        · by_cases hp : x.path = p
          · subst hp
            rw [get_put_same] at h
            obtain rfl := Option.some.inj h
            exact ⟨by omega, x, hx, rfl, hm⟩
          · rw [get_put_other _ _ hp] at h
            obtain ⟨h1, h2⟩ := ih.last p j h
            exact ⟨by omega, h2⟩
      · rw [if_neg hm]
        exact ⟨ih.srt, Nat.le_succ_of_le ih.len, ih.may, ih.tz, fun p j h => by obtain ⟨h1, h2⟩ := ih.last p j h; exact ⟨by omega, h2⟩⟩
theorem b1_length (its : List It) (k : Nat) : (b1 its k).2.length = (b1 its k).1.length := by
  have := congrArg List.length (b1_ok its k).tz
  rw [toZ_length, map_length] at this
  exact this.symm
theorem b1_get (its : List It) (k : Nat) (p : List UInt8) : getL p (b1 its k).1 = (getM (b1 its k).2 p).map (itF its) := by
  rw [← toZ_get p (b1_ok its k).srt, (b1_ok its k).tz, map_get]
/-- Set again from behind: behind j steps, of n. -/
def b2 (its : List It) (M : MV Nat) (n : Nat) : Nat → List SE
  | 0 => []
  | j + 1 => match its[n - 1 - j]? with
    | some x => if getM M x.path = some (n - 1 - j) then insL x.se (b2 its M n j) else b2 its M n j
    | none => b2 its M n j
theorem get_ins (e : SE) {L : List SE} (h : Srt L) (p : List UInt8) : getL p (insL e L) = if p = e.path then some e else getL p L := by
  rw [← toZ_get p (insL_srt e h), ← toZ_put h]
  by_cases hp : p = e.path
  · rw [if_pos hp, hp, get_put_same]
  · rw [if_neg hp, get_put_other _ _ (Ne.symm hp), toZ_get p h]
theorem b2_srt (its : List It) (M : MV Nat) (n : Nat) : ∀ j, Srt (b2 its M n j) ∧ (b2 its M n j).length ≤ j
  | 0 => ⟨List.Pairwise.nil, Nat.le_refl _⟩
  | j + 1 => by
    obtain ⟨h1, h2⟩ := b2_srt its M n j
    rw [b2]
    split
    · next x _ =>
      split
      · exact ⟨insL_srt _ h1, by have := insL_length_le x.se (b2 its M n j); omega⟩
      · exact ⟨h1, Nat.le_succ_of_le h2⟩
    · exact ⟨h1, Nat.le_succ_of_le h2⟩
theorem b2_get {its : List It} {M : MV Nat} {n : Nat} (hM : ∀ p j, getM M p = some j → j < n ∧ ∃ x, its[j]? = some x ∧ x.path = p ∧ mayN x.se = 0) (p : List UInt8) :
    ∀ j, j ≤ n → getL p (b2 its M n j) = (match getM M p with | some i => if n - j ≤ i then some (itF its i) else none | none => none)
  | 0, _ => by
    rw [b2]
    cases hg : getM M p with
    | none => rfl
    | some i =>
      have := (hM p i hg).1
      dsimp only
      rw [if_neg (by omega)]; rfl
  | j + 1, hj => by
    have ih := b2_get hM p j (by omega)
    have hs := (b2_srt its M n j).1
    rw [b2]
    cases hx : its[n - 1 - j]? with
    | none =>
      dsimp only
      rw [ih]
      cases hg : getM M p with
      | none => rfl
      | some i =>
        obtain ⟨h1, x, h2, _⟩ := hM p i hg
        dsimp only
        have : i ≠ n - 1 - j := by rintro rfl; rw [hx] at h2; cases h2
        by_cases hi : n - j ≤ i
        · rw [if_pos hi, if_pos (by omega)]
        · rw [if_neg hi, if_neg (by omega)]
    | some x =>
      dsimp only
      by_cases hl : getM M x.path = some (n - 1 - j)
      · rw [if_pos hl, get_ins _ hs, ih]
        by_cases hp : p = x.path
        · have hp2 : p = x.se.path := hp
          rw [if_pos hp2, hp, hl]
          dsimp only
          rw [if_pos (by omega), itF, hx]; rfl
        · have hp2 : ¬ p = x.se.path := hp
          rw [if_neg hp2]
          cases hg : getM M p with
          | none => rfl
          | some i =>
            obtain ⟨h1, y, h2, h3, _⟩ := hM p i hg
            dsimp only
            have : i ≠ n - 1 - j := by rintro rfl; rw [hx] at h2; obtain rfl := Option.some.inj h2; exact hp h3.symm
            by_cases hi : n - j ≤ i
            · rw [if_pos hi, if_pos (by omega)]
            · rw [if_neg hi, if_neg (by omega)]
      · rw [if_neg hl, ih]
        cases hg : getM M p with
        | none => rfl
        | some i =>
          obtain ⟨h1, y, h2, h3, _⟩ := hM p i hg
          dsimp only
          have : i ≠ n - 1 - j := by rintro rfl; rw [hx] at h2; obtain rfl := Option.some.inj h2; rw [h3] at hl; exact hl hg
          by_cases hi : n - j ≤ i
          · rw [if_pos hi, if_pos (by omega)]
          · rw [if_neg hi, if_neg (by omega)]
/-- The same look-ups: the same index. -/
theorem same_look {A B : List SE} (ha : Srt A) (hb : Srt B) (h : ∀ p, getL p A = getL p B) : A = B := by
  refine srt_ext ha hb (fun e => ?_)
  constructor
  · intro he
    have h1 := getL_mem ha he
    rw [h] at h1
    exact (getL_path h1).2
  · intro he
    have h1 := getL_mem hb he
    rw [← h] at h1
    exact (getL_path h1).2
/-- Set again from behind, the index is the same. -/
theorem b2_same (its : List It) (n : Nat) : b2 its (b1 its n).2 n n = (b1 its n).1 := by
  have ok := b1_ok its n
  refine same_look (b2_srt its _ n n).1 ok.srt (fun p => ?_)
  rw [b2_get ok.last p n (Nat.le_refl _), b1_get]
  cases getM (b1 its n).2 p with
  | none => rfl
  | some i =>
    dsimp only
    rw [if_pos (by omega)]; rfl
end Go.Proofs.YthcjjekkjbidlaaGreatDoor.St
/-
  The contracts of the reader at any bytes: short.
-/
namespace Go.Proofs.YthcjjekkjbidlaaGreatDoor.Rd
open Go.RowKit Go.Maps Go.WideMaps Go.Proofs.YthcjjekkjbidlaaGreatDoor.Rf

theorem shift7 (b : UInt8) (i : Nat) (hi : i ≤ 9) (h9 : i = 9 → b.toNat ≤ 1) : b.toNat % 128 * 128 ^ i < 18446744073709551616 := by
  have p64 : 128 ^ 9 * 2 = 18446744073709551616 := by decide
  by_cases h : i = 9
  · subst h
    have := h9 rfl
    have : b.toNat % 128 * 128 ^ 9 ≤ 1 * 128 ^ 9 := Nat.mul_le_mul_right _ (by omega)
    omega
  · have e1 : b.toNat % 128 * 128 ^ i ≤ 127 * 128 ^ i := Nat.mul_le_mul_right _ (by omega)
    have e2 : 128 ^ (i + 1) ≤ 128 ^ 9 := Nat.pow_le_pow_right (by decide) (by omega)
    rw [Nat.pow_succ] at e2
    omega
theorem or7 (n : Nat) (b : UInt8) (i : Nat) (hn : n < 18446744073709551616) (h : n < 128 ^ i) (hi : i ≤ 9) (h9 : i = 9 → b.toNat ≤ 1) :
    bits .or .u64 (n : Int) (IntKind.u64.wrap (IntKind.u64.wrap (bits .and .u8 (b.toNat : Int) 127) * 2 ^ (7 * i))) = ((n + b.toNat % 128 * 128 ^ i : Nat) : Int) := by
  have hs7 := shift7 b i hi h9
  have e : (2 : Int) ^ (7 * i) = ((128 ^ i : Nat) : Int) := by rw [show (128 : Nat) = 2 ^ 7 from rfl, ← Nat.pow_mul]; simp
  have e2 : ((b.toNat % 128 : Nat) : Int) * ((128 ^ i : Nat) : Int) = ((b.toNat % 128 * 128 ^ i : Nat) : Int) := (Int.natCast_mul _ _).symm
  have e3 : ((b.toNat % 128 : Nat) : Int) % 18446744073709551616 = ((b.toNat % 128 : Nat) : Int) := by omega
  have e4 : ((b.toNat % 128 * 128 ^ i : Nat) : Int) % 18446744073709551616 = ((b.toNat % 128 * 128 ^ i : Nat) : Int) := by omega
  rw [and127, IntKind.wrap_u64, IntKind.wrap_u64, e3, e, e2, e4, bits_or_u64_nat n _ hn hs7, or_add n _ i h]
theorem add7 (n : Nat) (b : UInt8) (i : Nat) (hi : i ≤ 9) (h : n < 128 ^ i) (h9 : i = 9 → b.toNat ≤ 1) : n + b.toNat % 128 * 128 ^ i < 128 ^ (i + 1) ∧ n + b.toNat % 128 * 128 ^ i < 18446744073709551616 := by
  have p64 : 128 ^ 9 * 2 = 18446744073709551616 := by decide
  have e1 : b.toNat % 128 * 128 ^ i ≤ 127 * 128 ^ i := Nat.mul_le_mul_right _ (by omega)
  refine ⟨by rw [Nat.pow_succ]; omega, ?_⟩
  by_cases h' : i = 9
  · subst h'
    have := h9 rfl
    have : b.toNat % 128 * 128 ^ 9 ≤ 1 * 128 ^ 9 := Nat.mul_le_mul_right _ (by omega)
    omega
  · have e2 : 128 ^ (i + 1) ≤ 128 ^ 9 := Nat.pow_le_pow_right (by decide) (by omega)
    rw [Nat.pow_succ] at e2
    omega
theorem rd_ten (n : Nat) (l : List UInt8) : Rf.rd 10 n l = none := by
  cases l with
  | nil => rfl
  | cons b r => rw [Rf.rd, if_pos (by decide)]

set_option maxHeartbeats 4000000 in
set_option maxRecDepth 100000 in
theorem short_any (w : World) (L : List UInt8) (hl : L.length ≤ 140737488355328) :
    Calls Tryz.prog 125 #[.string ⟨L.toArray⟩] w fun e w' => e = .returned (.tuple #[.int .u64 (shN L : Int), .int .i64 (shK L)]) ∧ w' = w := by
  have hs : (⟨L.toArray⟩ : ByteArray).size = L.length := rfl
  by_cases h10 : (L.length : Int) ≤ 10
  · have hL : L.length ≤ 10 := by omega
    go_enter Tryz.func125, Tryz.ntmps125
    go_wp2
    go_loopw [2, 9] (fun v2 v9 wr => ∃ (i n : Nat), i ≤ L.length ∧ v2 = .int .u64 (n : Int) ∧ v9 = .int .i64 (i : Int) ∧ wr = w ∧ n < 18446744073709551616 ∧ Hid (n < 128 ^ i ∧ rd0 L = Rf.rd i n (L.drop i))) (fun _ v9 _ => L.length - (RowKit.intOf v9).toNat)
    case atStart => exact ⟨0, 0, by omega, rfl, rfl, rfl, by omega, Lib.hid ⟨by decide, rfl⟩⟩
    case round =>
      obtain ⟨i, n, hiM, rfl, rfl, rfl, hn, HR⟩ := hrel
      have hi : i ≤ 10 := by omega
      by_cases hlt : (i : Int) < (L.length : Int)
      · have hil : i < L.length := by omega
        obtain ⟨b, hb⟩ : ∃ b, b = L[i] := ⟨_, rfl⟩
        have hidx : (⟨L.toArray⟩ : ByteArray)[i]'(by rw [hs]; omega) = b := by rw [hb]; rfl
        have hd : Hid (L.drop i = b :: L.drop (i + 1)) := Lib.hid (by rw [hb]; exact List.drop_eq_getElem_cons hil)
        have hbb := UInt8.toNat_lt b
        have hrd : Hid (rd0 L = Rf.rd i n (b :: L.drop (i + 1))) := Lib.hid (by rw [HR.out.2, hd.out])
        clear hb
        by_cases hbad : (i = 9 ∧ 1 < b.toNat) ∨ (0 < i ∧ b.toNat = 0)
        · have hz : Hid (rd0 L = none) := Lib.hid (by rw [hrd.out, Rf.rd, if_neg (by omega), if_pos hbad])
          have e1 : Hid (shN L = 0 ∧ shK L = -1) := Lib.hid ⟨by rw [shN, hz.out], by rw [shK, hz.out]⟩
          by_cases h9 : i = 9 ∧ 1 < b.toNat
          · obtain ⟨rfl, hb1⟩ := h9
            have hb2 : (1 : Int) < (b.toNat : Int) := by omega
            clear hbad
            go_wp2
            go_ret2
            rw [e1.out.1, e1.out.2]
            exact ⟨rfl, rfl⟩
          · have h0 : (0 : Int) < (i : Int) := by omega
            have hb0 : ((b.toNat : Int) == 0) = true := by rw [beq_iff_eq]; omega
            by_cases h99 : i = 9
            · subst h99
              have hb2 : ¬ (1 : Int) < (b.toNat : Int) := by omega
              clear hbad h9
              go_wp2
              go_ret2
              rw [e1.out.1, e1.out.2]
              exact ⟨rfl, rfl⟩
            · have h98 : ((i : Int) == 9) = false := by rw [beq_eq_false_iff_ne]; omega
              clear hbad h9 h99
              go_wp2
              go_ret2
              rw [e1.out.1, e1.out.2]
              exact ⟨rfl, rfl⟩
        · have hgood : Hid (¬ ((i = 9 ∧ 1 < b.toNat) ∨ (0 < i ∧ b.toNat = 0))) := Lib.hid hbad
          have hor := Lib.hid (or7 n b i hn HR.out.1 (by omega) (by omega))
          have hadd := Lib.hid (add7 n b i (by omega) HR.out.1 (by omega))
          by_cases h9 : i = 9
          · subst h9
            have hgood2 : Hid (¬ (((9 : Nat) = 9 ∧ 1 < b.toNat) ∨ (0 < 9 ∧ b.toNat = 0))) := hgood
            clear hgood
            have hgood := hgood2
            have hb1 : ¬ (1 : Int) < (b.toNat : Int) := by omega
            have hb0 : ((b.toNat : Int) == 0) = false := by rw [beq_eq_false_iff_ne]; omega
            have hb2 : (b.toNat : Int) < 128 := by omega
            have hz : Hid (rd0 L = some (n + b.toNat % 128 * 128 ^ 9, 10)) := Lib.hid (by
              rw [hrd.out, Rf.rd, if_neg (by omega), if_neg hgood.out, if_pos (by omega), Nat.mod_eq_of_lt (by omega)])
            have e1 : Hid (shN L = n + b.toNat % 128 * 128 ^ 9 ∧ shK L = ((10 : Nat) : Int)) := Lib.hid ⟨by rw [shN, hz.out], by rw [shK, hz.out]⟩
            clear hbad hgood2
            go_wp2
            go_ret2
            rw [e1.out.1, e1.out.2]
            exact ⟨congrArg (fun z => Ending.returned (.tuple #[.int .u64 z, .int .i64 ((10 : Nat) : Int)])) hor.out, rfl⟩
          · have h98 : ((i : Int) == 9) = false := by rw [beq_eq_false_iff_ne]; omega
            by_cases h0 : i = 0
            · have h00 : ¬ (0 : Int) < (i : Int) := by omega
              by_cases hb2 : (b.toNat : Int) < 128
              · have hz : Hid (rd0 L = some (n + b.toNat % 128 * 128 ^ i, i + 1)) := Lib.hid (by
                  rw [hrd.out, Rf.rd, if_neg (by omega), if_neg hgood.out, if_pos (by omega), Nat.mod_eq_of_lt (by omega)])
                have e1 : Hid (shN L = n + b.toNat % 128 * 128 ^ i ∧ shK L = ((i + 1 : Nat) : Int)) := Lib.hid ⟨by rw [shN, hz.out], by rw [shK, hz.out]⟩
                clear hbad h0 h9
                go_wp2
                go_ret2
                rw [e1.out.1, e1.out.2]
                exact ⟨congrArg (fun z => Ending.returned (.tuple #[.int .u64 z, .int .i64 (((i + 1 : Nat) : Int))])) hor.out, rfl⟩
              · have hz : Hid (rd0 L = Rf.rd (i + 1) (n + b.toNat % 128 * 128 ^ i) (L.drop (i + 1))) := Lib.hid (by
                  rw [hrd.out, Rf.rd, if_neg (by omega), if_neg hgood.out, if_neg (by omega), show b.toNat - 128 = b.toNat % 128 by omega])
                have hn2 := hadd.out
                clear hbad h0 h9
                go_wp2
                go_roundw
                case rel => exact ⟨i + 1, n + b.toNat % 128 * 128 ^ i, by omega, congrArg (Value.int .u64) hor.out, by simp, trivial, hn2.2, Lib.hid ⟨hn2.1, hz.out⟩⟩
                case measure => simp [RowKit.intOf]; omega
            · have h00 : (0 : Int) < (i : Int) := by omega
              have hb0 : ((b.toNat : Int) == 0) = false := by rw [beq_eq_false_iff_ne]; omega
              by_cases hb2 : (b.toNat : Int) < 128
              · have hz : Hid (rd0 L = some (n + b.toNat % 128 * 128 ^ i, i + 1)) := Lib.hid (by
                  rw [hrd.out, Rf.rd, if_neg (by omega), if_neg hgood.out, if_pos (by omega), Nat.mod_eq_of_lt (by omega)])
                have e1 : Hid (shN L = n + b.toNat % 128 * 128 ^ i ∧ shK L = ((i + 1 : Nat) : Int)) := Lib.hid ⟨by rw [shN, hz.out], by rw [shK, hz.out]⟩
                clear hbad h0 h9
                go_wp2
                go_ret2
                rw [e1.out.1, e1.out.2]
                exact ⟨congrArg (fun z => Ending.returned (.tuple #[.int .u64 z, .int .i64 (((i + 1 : Nat) : Int))])) hor.out, rfl⟩
              · have hz : Hid (rd0 L = Rf.rd (i + 1) (n + b.toNat % 128 * 128 ^ i) (L.drop (i + 1))) := Lib.hid (by
                  rw [hrd.out, Rf.rd, if_neg (by omega), if_neg hgood.out, if_neg (by omega), show b.toNat - 128 = b.toNat % 128 by omega])
                have hn2 := hadd.out
                clear hbad h0 h9
                go_wp2
                go_roundw
                case rel => exact ⟨i + 1, n + b.toNat % 128 * 128 ^ i, by omega, congrArg (Value.int .u64) hor.out, by simp, trivial, hn2.2, Lib.hid ⟨hn2.1, hz.out⟩⟩
                case measure => simp [RowKit.intOf]; omega
      · have hz : Hid (rd0 L = none) := Lib.hid (by
          rw [HR.out.2]
          rw [List.drop_eq_nil_of_le (by omega)]; rfl)
        have e1 : Hid (shN L = 0 ∧ shK L = -1) := Lib.hid ⟨by rw [shN, hz.out], by rw [shK, hz.out]⟩
        go_wp2
        go_ret2
        rw [e1.out.1, e1.out.2]
        exact ⟨rfl, rfl⟩
  · have hL : 10 < (L.length : Int) := by omega
    go_enter Tryz.func125, Tryz.ntmps125
    go_wp2
    go_loopw [2, 9] (fun v2 v9 wr => ∃ (i n : Nat), i ≤ 10 ∧ v2 = .int .u64 (n : Int) ∧ v9 = .int .i64 (i : Int) ∧ wr = w ∧ n < 18446744073709551616 ∧ Hid (n < 128 ^ i ∧ rd0 L = Rf.rd i n (L.drop i))) (fun _ v9 _ => 10 - (RowKit.intOf v9).toNat)
    case atStart => exact ⟨0, 0, by omega, rfl, rfl, rfl, by omega, Lib.hid ⟨by decide, rfl⟩⟩
    case round =>
      obtain ⟨i, n, hiM, rfl, rfl, rfl, hn, HR⟩ := hrel
      have hi : i ≤ 10 := by omega
      by_cases hlt : (i : Int) < 10
      · have hil : i < L.length := by omega
        obtain ⟨b, hb⟩ : ∃ b, b = L[i] := ⟨_, rfl⟩
        have hidx : (⟨L.toArray⟩ : ByteArray)[i]'(by rw [hs]; omega) = b := by rw [hb]; rfl
        have hd : Hid (L.drop i = b :: L.drop (i + 1)) := Lib.hid (by rw [hb]; exact List.drop_eq_getElem_cons hil)
        have hbb := UInt8.toNat_lt b
        have hrd : Hid (rd0 L = Rf.rd i n (b :: L.drop (i + 1))) := Lib.hid (by rw [HR.out.2, hd.out])
        clear hb
        by_cases hbad : (i = 9 ∧ 1 < b.toNat) ∨ (0 < i ∧ b.toNat = 0)
        · have hz : Hid (rd0 L = none) := Lib.hid (by rw [hrd.out, Rf.rd, if_neg (by omega), if_pos hbad])
          have e1 : Hid (shN L = 0 ∧ shK L = -1) := Lib.hid ⟨by rw [shN, hz.out], by rw [shK, hz.out]⟩
          by_cases h9 : i = 9 ∧ 1 < b.toNat
          · obtain ⟨rfl, hb1⟩ := h9
            have hb2 : (1 : Int) < (b.toNat : Int) := by omega
            clear hbad
            go_wp2
            go_ret2
            rw [e1.out.1, e1.out.2]
            exact ⟨rfl, rfl⟩
          · have h0 : (0 : Int) < (i : Int) := by omega
            have hb0 : ((b.toNat : Int) == 0) = true := by rw [beq_iff_eq]; omega
            by_cases h99 : i = 9
            · subst h99
              have hb2 : ¬ (1 : Int) < (b.toNat : Int) := by omega
              clear hbad h9
              go_wp2
              go_ret2
              rw [e1.out.1, e1.out.2]
              exact ⟨rfl, rfl⟩
            · have h98 : ((i : Int) == 9) = false := by rw [beq_eq_false_iff_ne]; omega
              clear hbad h9 h99
              go_wp2
              go_ret2
              rw [e1.out.1, e1.out.2]
              exact ⟨rfl, rfl⟩
        · have hgood : Hid (¬ ((i = 9 ∧ 1 < b.toNat) ∨ (0 < i ∧ b.toNat = 0))) := Lib.hid hbad
          have hor := Lib.hid (or7 n b i hn HR.out.1 (by omega) (by omega))
          have hadd := Lib.hid (add7 n b i (by omega) HR.out.1 (by omega))
          by_cases h9 : i = 9
          · subst h9
            have hgood2 : Hid (¬ (((9 : Nat) = 9 ∧ 1 < b.toNat) ∨ (0 < 9 ∧ b.toNat = 0))) := hgood
            clear hgood
            have hgood := hgood2
            have hb1 : ¬ (1 : Int) < (b.toNat : Int) := by omega
            have hb0 : ((b.toNat : Int) == 0) = false := by rw [beq_eq_false_iff_ne]; omega
            have hb2 : (b.toNat : Int) < 128 := by omega
            have hz : Hid (rd0 L = some (n + b.toNat % 128 * 128 ^ 9, 10)) := Lib.hid (by
              rw [hrd.out, Rf.rd, if_neg (by omega), if_neg hgood.out, if_pos (by omega), Nat.mod_eq_of_lt (by omega)])
            have e1 : Hid (shN L = n + b.toNat % 128 * 128 ^ 9 ∧ shK L = ((10 : Nat) : Int)) := Lib.hid ⟨by rw [shN, hz.out], by rw [shK, hz.out]⟩
            clear hbad hgood2
            go_wp2
            go_ret2
            rw [e1.out.1, e1.out.2]
            exact ⟨congrArg (fun z => Ending.returned (.tuple #[.int .u64 z, .int .i64 ((10 : Nat) : Int)])) hor.out, rfl⟩
          · have h98 : ((i : Int) == 9) = false := by rw [beq_eq_false_iff_ne]; omega
            by_cases h0 : i = 0
            · have h00 : ¬ (0 : Int) < (i : Int) := by omega
              by_cases hb2 : (b.toNat : Int) < 128
              · have hz : Hid (rd0 L = some (n + b.toNat % 128 * 128 ^ i, i + 1)) := Lib.hid (by
                  rw [hrd.out, Rf.rd, if_neg (by omega), if_neg hgood.out, if_pos (by omega), Nat.mod_eq_of_lt (by omega)])
                have e1 : Hid (shN L = n + b.toNat % 128 * 128 ^ i ∧ shK L = ((i + 1 : Nat) : Int)) := Lib.hid ⟨by rw [shN, hz.out], by rw [shK, hz.out]⟩
                clear hbad h0 h9
                go_wp2
                go_ret2
                rw [e1.out.1, e1.out.2]
                exact ⟨congrArg (fun z => Ending.returned (.tuple #[.int .u64 z, .int .i64 (((i + 1 : Nat) : Int))])) hor.out, rfl⟩
              · have hz : Hid (rd0 L = Rf.rd (i + 1) (n + b.toNat % 128 * 128 ^ i) (L.drop (i + 1))) := Lib.hid (by
                  rw [hrd.out, Rf.rd, if_neg (by omega), if_neg hgood.out, if_neg (by omega), show b.toNat - 128 = b.toNat % 128 by omega])
                have hn2 := hadd.out
                clear hbad h0 h9
                go_wp2
                go_roundw
                case rel => exact ⟨i + 1, n + b.toNat % 128 * 128 ^ i, by omega, congrArg (Value.int .u64) hor.out, by simp, trivial, hn2.2, Lib.hid ⟨hn2.1, hz.out⟩⟩
                case measure => simp [RowKit.intOf]; omega
            · have h00 : (0 : Int) < (i : Int) := by omega
              have hb0 : ((b.toNat : Int) == 0) = false := by rw [beq_eq_false_iff_ne]; omega
              by_cases hb2 : (b.toNat : Int) < 128
              · have hz : Hid (rd0 L = some (n + b.toNat % 128 * 128 ^ i, i + 1)) := Lib.hid (by
                  rw [hrd.out, Rf.rd, if_neg (by omega), if_neg hgood.out, if_pos (by omega), Nat.mod_eq_of_lt (by omega)])
                have e1 : Hid (shN L = n + b.toNat % 128 * 128 ^ i ∧ shK L = ((i + 1 : Nat) : Int)) := Lib.hid ⟨by rw [shN, hz.out], by rw [shK, hz.out]⟩
                clear hbad h0 h9
                go_wp2
                go_ret2
                rw [e1.out.1, e1.out.2]
                exact ⟨congrArg (fun z => Ending.returned (.tuple #[.int .u64 z, .int .i64 (((i + 1 : Nat) : Int))])) hor.out, rfl⟩
              · have hz : Hid (rd0 L = Rf.rd (i + 1) (n + b.toNat % 128 * 128 ^ i) (L.drop (i + 1))) := Lib.hid (by
                  rw [hrd.out, Rf.rd, if_neg (by omega), if_neg hgood.out, if_neg (by omega), show b.toNat - 128 = b.toNat % 128 by omega])
                have hn2 := hadd.out
                clear hbad h0 h9
                go_wp2
                go_roundw
                case rel => exact ⟨i + 1, n + b.toNat % 128 * 128 ^ i, by omega, congrArg (Value.int .u64) hor.out, by simp, trivial, hn2.2, Lib.hid ⟨hn2.1, hz.out⟩⟩
                case measure => simp [RowKit.intOf]; omega
      · have hz : Hid (rd0 L = none) := Lib.hid (by
          rw [HR.out.2]
          obtain rfl : i = 10 := by omega
          exact rd_ten _ _)
        have e1 : Hid (shN L = 0 ∧ shK L = -1) := Lib.hid ⟨by rw [shN, hz.out], by rw [shK, hz.out]⟩
        go_wp2
        go_ret2
        rw [e1.out.1, e1.out.2]
        exact ⟨rfl, rfl⟩
end Go.Proofs.YthcjjekkjbidlaaGreatDoor.Rd
