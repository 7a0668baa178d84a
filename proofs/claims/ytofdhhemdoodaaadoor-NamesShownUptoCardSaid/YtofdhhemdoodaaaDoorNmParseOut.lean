/-
  The contract of the public ParseUint to the base 16: at every text.
-/
import Derived.Test.YtofdhhemdoodaaaDoorNmParse
import Derived.WalkSmall
import Derived.Lib.SmallJoins
namespace Go.Proofs.YtofdhhemdoodaaaDoor.Nm
open Go.RowKit

/-- The two variables that hold the library's faults. -/
def Errs (w : World) : Prop := ∃ t1 p1 t2 p2, w.cell? ⟨1, 0, none⟩ = some (.iface t1 p1) ∧ w.cell? ⟨2, 0, none⟩ = some (.iface t2 p2) ∧ 1 < w.heap.size ∧ 2 < w.heap.size
theorem Errs.below {w w' : World} (h : Errs w) (hb : Below w.heap.size w w') : Errs w' := by
  obtain ⟨t1, p1, t2, p2, h1, h2, h3, h4⟩ := h
  exact ⟨t1, p1, t2, p2, (hb.cell (p := ⟨1, 0, none⟩) h3).trans h1, (hb.cell (p := ⟨2, 0, none⟩) h4).trans h2, Nat.lt_of_lt_of_le h3 hb.size, Nat.lt_of_lt_of_le h4 hb.size⟩

set_option maxHeartbeats 6400000 in
set_option maxRecDepth 100000 in
theorem syntax_err (fn s : ByteArray) (te : TypeId) (pe : Value) (w : World) (hlim : s.size ≤ 281474976710656) (hv : w.cell? ⟨1, 0, none⟩ = some (.iface te pe)) (hG : 1 < w.heap.size) :
    Calls Tryd.prog 65 #[.string fn, .string s] w fun e w' => ∃ p, e = .returned (.pointer p) ∧ Below w.heap.size w w' := by
  have mixed : Tryd.prog.follows Departure.mixedOrders = true := by kernel_rfl
  have hvd : w.drew.cell? ⟨1, 0, none⟩ = some _ := hv
  go_enter Tryd.func65, Tryd.ntmps65
  go_wp2
  go_region_with_o (
      go_at_call 80
      refine (Tryd.stringslite_Clone s _ hlim).mono ?_
      rintro e w2 ⟨rfl, hbel⟩
      have hv2 : w2.cell? ⟨1, 0, none⟩ = some _ := (hbel.cell (show (⟨1, 0, none⟩ : Addr).block < w.drew.heap.size from hG)).trans hvd)
  all_goals (
    go_wp2
    go_ret
    have hs2 : w.heap.size ≤ w2.heap.size := hbel.size
    exact ⟨_, rfl, ((Below.drew (Below.refl _ w)).trans hbel).alloc hs2 _⟩)

set_option maxHeartbeats 6400000 in
set_option maxRecDepth 100000 in
theorem range_err (fn s : ByteArray) (te : TypeId) (pe : Value) (w : World) (hlim : s.size ≤ 281474976710656) (hv : w.cell? ⟨2, 0, none⟩ = some (.iface te pe)) (hG : 2 < w.heap.size) :
    Calls Tryd.prog 66 #[.string fn, .string s] w fun e w' => ∃ p, e = .returned (.pointer p) ∧ Below w.heap.size w w' := by
  have mixed : Tryd.prog.follows Departure.mixedOrders = true := by kernel_rfl
  have hvd : w.drew.cell? ⟨2, 0, none⟩ = some _ := hv
  go_enter Tryd.func66, Tryd.ntmps66
  go_wp2
  go_region_with_o (
      go_at_call 80
      refine (Tryd.stringslite_Clone s _ hlim).mono ?_
      rintro e w2 ⟨rfl, hbel⟩
      have hv2 : w2.cell? ⟨2, 0, none⟩ = some _ := (hbel.cell (show (⟨2, 0, none⟩ : Addr).block < w.drew.heap.size from hG)).trans hvd)
  all_goals (
    go_wp2
    go_ret
    have hs2 : w.heap.size ≤ w2.heap.size := hbel.size
    exact ⟨_, rfl, ((Below.drew (Below.refl _ w)).trans hbel).alloc hs2 _⟩)

theorem cmp79 : (Tryd.prog.info? 79).map (·.comparable) = some true := by kernel_rfl

set_option maxHeartbeats 6400000 in
set_option maxRecDepth 100000 in
theorem to_error (fn s : ByteArray) (b1 b2 k : Int) (hk : k = 1 ∨ k = 2) (w : World) (hlim : s.size ≤ 281474976710656) (hE : Errs w) :
    Calls Tryd.prog 54 #[.string fn, .string s, .int .i64 b1, .int .i64 b2, .iface 79 (.int .i64 k)] w fun e w' => ∃ p, e = .returned (.iface 82 p) ∧ Below w.heap.size w w' := by
  obtain ⟨t1, p1, t2, p2, h1, h2, h3, h4⟩ := hE
  have H1 := Lib.hid h1; have H2 := Lib.hid h2
  clear h1 h2
  have heq : ∀ (a b : Int) W, (binOp .eql 54 (.iface 79 (.int .i64 a)) (.iface 79 (.int .i64 b))).run Tryd.prog W = .ok (.bool (a == b)) W := fun a b W => Lib.run_eql_iface_int W a b Tryd.underlying54 cmp79 Tryd.underlying79
  go_enter Tryd.func54, Tryd.ntmps54
  rcases hk with rfl | rfl
  · go_wp2_with fail
    refine (range_err fn s _ _ w hlim H2.out h4).mono ?_
    rintro e w2 ⟨p, rfl, hb⟩
    go_wp2
    go_ret
    exact ⟨_, rfl, hb⟩
  · go_wp2_with fail
    refine (syntax_err fn s _ _ w hlim H1.out h3).mono ?_
    rintro e w2 ⟨p, rfl, hb⟩
    go_wp2
    go_ret
    exact ⟨_, rfl, hb⟩
/-- What the public call answers: the number and no fault, or a fault. -/
def PuOut (o : Option Nat) (e : Ending) : Prop :=
  match o with
  | some n => e = .returned (.tuple #[.int .u64 n, .nilIface])
  | none => ∃ (v : Int) (p : Value), e = .returned (.tuple #[.int .u64 v, .iface 82 p])

theorem puOut_some {o : Option Nat} {n : Nat} (h : o = some n) : PuOut o (.returned (.tuple #[.int .u64 n, .nilIface])) := by
  subst h; rfl
theorem puOut_none {o : Option Nat} (h : o = none) (v : Int) (p : Value) : PuOut o (.returned (.tuple #[.int .u64 v, .iface 82 p])) := by
  subst h; exact ⟨v, p, rfl⟩

theorem pu_any (t : ByteArray) (hlim : t.size ≤ 9223372036854775806) (w : World) (hE : Errs w) (bs : Int) (mv : Nat) (hb : (bs = 8 ∧ mv = 255) ∨ (bs = 31 ∧ mv = 2147483647)) :
    Calls Tryd.prog 53 #[.string t, .int .i64 16, .int .i64 bs] w fun e w' => PuRet (puN mv t.data.toList) e ∧ Below w.heap.size w w' := by
  by_cases h0 : t.data.toList = []
  · refine (pu_empty t h0 bs w).mono ?_
    rintro e w' ⟨he, rfl⟩
    rw [puN, if_pos h0]
    exact ⟨he, Below.refl _ _⟩
  · have hs : t.size ≠ 0 := by
      rw [Lib.size_eq]; intro h; exact h0 (List.eq_nil_of_length_eq_zero h)
    refine (pu_inner t hs (by omega) w bs mv hb).mono ?_
    rintro e w' ⟨he, rfl⟩
    rw [puN, if_neg h0]
    exact ⟨he, Go.Joins.below_bytesWorld _ w _ t (Nat.le_refl _)⟩

set_option maxHeartbeats 6400000 in
set_option maxRecDepth 100000 in
theorem parseUint (t : ByteArray) (hmax : t.size ≤ 9223372036854775806) (bs : Int) (mv : Nat) (hlim : puN mv t.data.toList = none → t.size ≤ 281474976710656) (w : World) (hE : Errs w) (hb : (bs = 8 ∧ mv = 255) ∨ (bs = 31 ∧ mv = 2147483647)) :
    Calls Tryd.prog 35 #[.string t, .int .i64 16, .int .i64 bs] w fun e w' => PuOut (puN mv t.data.toList) e ∧ Below w.heap.size w w' := by
  have HB := Lib.hid hb
  have HLM := Lib.hid hlim
  clear hlim
  go_enter Tryd.func35, Tryd.ntmps35
  go_wp2_with fail
  clear hb
  refine (pu_any t hmax w hE bs mv HB.out).mono ?_
  rintro e w1 ⟨he, hb1⟩
  have hE1 := hE.below hb1
  cases ho : puN mv t.data.toList with
  | some n =>
    rw [ho] at he
    have he' : e = .returned (.tuple #[.int .u64 n, .nilIface]) := he
    subst he'
    have HO := Lib.hid ho
    clear ho he
    go_wp2
    go_ret2
    exact ⟨puOut_some HO.out, hb1⟩
  | none =>
    rw [ho] at he
    obtain ⟨v, k, rfl, hk⟩ := he
    have hlim := HLM.out ho
    have HO := Lib.hid ho; have HK := Lib.hid hk
    clear ho hk
    go_wp2_with fail
    refine (to_error _ t _ _ k HK.out w1 hlim hE1).mono ?_
    rintro e w2 ⟨p, rfl, hb2⟩
    go_wp2
    go_ret2
    exact ⟨puOut_none HO.out _ _, hb1.trans (hb2.mono hb1.size)⟩
end Go.Proofs.YtofdhhemdoodaaaDoor.Nm
