/-
  The contract of modulo: a remainder from 0 on.
-/
import Derived.Test.YtcfdfpjemonhoaaDkFilesAll
namespace Go.Proofs.Ytcfdfpjemonhoaa.Dk
open Go.RowKit Go.Maps Go.WideMaps

theorem tmod_two (n m : Int) (h : 0 < m) : (n.tmod m + m).tmod m = n % m := by
  have h1 : -m < n.tmod m := by
    have := Int.tmod_lt_of_pos n h
    rcases Int.le_total 0 n with k | k
    · have := Int.tmod_nonneg m k; omega
    · have e : n.tmod m = -((-n).tmod m) := by rw [Int.neg_tmod, Int.neg_neg]
      have := Int.tmod_lt_of_pos (-n) h
      omega
  rw [Int.tmod_eq_emod_of_nonneg (by omega), Int.add_emod_right]
  rcases Int.le_total 0 n with k | k
  · rw [Int.tmod_eq_emod_of_nonneg k, Int.emod_emod_of_dvd _ (Int.dvd_refl m)]
  · have e : n.tmod m = -((-n).tmod m) := by rw [Int.neg_tmod, Int.neg_neg]
    rw [e, Int.tmod_eq_emod_of_nonneg (by omega)]
    have h2 := Int.emod_add_mul_ediv (-n) m
    have h3 : n = -((-n) % m) + m * (-((-n) / m)) := by rw [Int.mul_neg]; omega
    conv => rhs; rw [h3]
    rw [Int.add_mul_emod_self_left]

set_option maxHeartbeats 2000000 in
set_option maxRecDepth 100000 in
theorem mod_any (n m : Int) (h0 : 0 < m) (h1 : m ≤ 1099511627776) (w : World) :
    Calls Try.prog 40 #[.int .i64 n, .int .i64 m] w fun e w' => e = .returned (.int .i64 (n % m)) ∧ w' = w := by
  have hz : (m == 0) = false := by simp; omega
  have hlo : -m < n.tmod m := by
    rcases Int.le_total 0 n with k | k
    · have := Int.tmod_nonneg m k; omega
    · have e : n.tmod m = -((-n).tmod m) := by rw [Int.neg_tmod, Int.neg_neg]
      have := Int.tmod_lt_of_pos (-n) h0
      omega
  have hhi := Int.tmod_lt_of_pos n h0
  have e1 : IntKind.i64.wrap (n.tmod m) = n.tmod m := by rw [IntKind.wrap_i64]; omega
  have e2 : IntKind.i64.wrap (n.tmod m + m) = n.tmod m + m := by rw [IntKind.wrap_i64]; omega
  have e3 := tmod_two n m h0
  have l3 := Int.emod_nonneg n (show m ≠ 0 by omega)
  have u3 := Int.emod_lt_of_pos n h0
  have e4 : IntKind.i64.wrap (n % m) = n % m := by rw [IntKind.wrap_i64]; omega
  go_enter Try.func40, Try.ntmps40
  go_wp2
  all_goals (go_ret; refine ⟨?_, rfl⟩; simp [e1, e2, e3, e4])
end Go.Proofs.Ytcfdfpjemonhoaa.Dk
