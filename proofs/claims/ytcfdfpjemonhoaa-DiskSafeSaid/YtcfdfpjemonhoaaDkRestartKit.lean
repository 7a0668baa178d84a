/-
  For the disk's Restart: the numbers of a directory in order; a row that is cut.
-/
import Derived.Test.YtcfdfpjemonhoaaDkMod
namespace Go.Proofs.Ytcfdfpjemonhoaa.Dk
open Go.RowKit Go.Maps Go.WideMaps

/-- The numbers of a directory, in order. -/
def numsOf (m : DM) : List Nat := (m.map (·.2)).mergeSort (fun x y => decide (x ≤ y))

theorem getM_of_mem {m : DM} (hn : m.Pairwise fun p q => p.1 ≠ q.1) {p : List UInt8 × Nat} (hp : p ∈ m) : getM m p.1 = some p.2 := by
  induction m with
  | nil => simp at hp
  | cons y r ih =>
    rw [List.pairwise_cons] at hn
    rw [getM, List.find?_cons]
    rcases List.mem_cons.1 hp with rfl | hp
    · simp
    · have hne : y.1 ≠ p.1 := hn.1 p hp
      have : (y.1 == p.1) = false := by simpa using hne
      rw [this]
      exact ih hn.2 hp

theorem vals_of {m : DM} {ps : List (List UInt8 × Int)} (hn : m.Pairwise fun p q => p.1 ≠ q.1) (h : AnyY.AllOf (toD m) ps) : ((ps.map (·.2)).mergeSort (fun x y => decide (x ≤ y))) = (numsOf m).map (fun n : Nat => (n : Int)) := by
  obtain ⟨h1, h2, h3⟩ := h
  rw [strKeys_toD] at h1
  have e1 : ps.map (·.2) = (ps.map (·.1)).map (fun k => (((getM m k).getD 0 : Nat) : Int)) := by
    rw [List.map_map]
    refine List.map_congr_left fun p hp => ?_
    have := h3 p hp (.lit (.int .i64 0))
    rw [toD_at] at this
    injection this with this
    injection this with _ this
    exact this.symm
  have e2 : (m.map (·.1)).map (fun k => (((getM m k).getD 0 : Nat) : Int)) = (m.map (·.2)).map (fun n : Nat => (n : Int)) := by
    rw [List.map_map, List.map_map]
    refine List.map_congr_left fun p hp => ?_
    simp only [Function.comp, getM_of_mem hn hp, Option.getD_some]
  have hp : (ps.map (·.2)).Perm ((numsOf m).map (fun n : Nat => (n : Int))) := by
    rw [e1]
    refine (h1.map _).trans ?_
    rw [e2]
    exact ((List.mergeSort_perm (m.map (·.2)) _).map _).symm
  rw [mergeSort_of_perm_i hp]
  refine List.mergeSort_of_pairwise ?_
  rw [List.pairwise_map]
  have hs : (numsOf m).Pairwise (fun x y => decide (x ≤ y) = true) := List.pairwise_mergeSort (fun a b c h1 h2 => by simp only [decide_eq_true_eq] at *; omega) (fun a b => by simp only [Bool.or_eq_true, decide_eq_true_eq]; omega) _
  exact hs.imp (fun {a b} h => by simp only [decide_eq_true_eq] at *; omega)

theorem numsOf_fits {n : Nat} {m : DM} (h : fits n m) {i : Nat} (hi : i ∈ numsOf m) : i < n := by
  have := (List.mergeSort_perm (m.map (·.2)) (fun x y => decide (x ≤ y))).mem_iff.1 hi
  obtain ⟨p, hp, rfl⟩ := List.mem_map.1 this
  exact h p hp
theorem numsOf_length (m : DM) : (numsOf m).length = m.length := by rw [numsOf, List.length_mergeSort, List.length_map]

set_option maxRecDepth 100000 in
/-- 's[:n]' of a row that the call owns. -/
theorem slice_head {w W : World} {B : Nat} {e t : TypeId} {a : Option Addr} {n c : Nat} {xs : List Value} (h : w.ownsRow B e 1 (.slice a n c) n xs) (ht : Try.prog.underlying t = some (.slice e)) (hsz : ∀ w, (sizeOf e).run Try.prog w = .ok 1 w) (k : Nat) (hk : k ≤ n) :
    (Instr.slice t (.slice a n c) none (some (.int .i64 (k : Int))) none).run Try.prog W = .ok (.slice a k c) W := by
  have he : Try.prog.elem t = e := by simp [Program.elem, ht]
  have hc : k ≤ c := by
    obtain ⟨_, ⟨h2, h3⟩ | ⟨g, cap, cur, h2, _, _, h4, _⟩⟩ := h
    · omega
    · injection h2 with _ _ h2; omega
  rw [run_slice_h W t a n c (by rw [he]; exact ht) .i64 (k : Int) (by omega) (by omega), he, hsz]
  obtain ⟨_, ⟨h2, _⟩ | ⟨g, cap, cur, h2, _, _, h4, _⟩⟩ := h
  · injection h2 with h2 _ h3
    subst h2
    simp [Result.andThen, sliced]
  · injection h2 with h2 _ h3
    subst h2
    simp [Result.andThen, sliced, Addr.add]

theorem row_cap {w : World} {B : Nat} {e : TypeId} {a : Option Addr} {n c : Nat} {xs : List Value} (h : w.ownsRow B e 1 (.slice a n c) n xs) : n ≤ c := by
  obtain ⟨_, ⟨h2, h3⟩ | ⟨g, cap, cur, h2, _, _, h4, _⟩⟩ := h
  · omega
  · injection h2 with _ _ h2; omega

theorem row_short {w : World} {B : Nat} {e : TypeId} {a : Option Addr} {n c : Nat} {xs : List Value} (h : w.ownsRow B e 1 (.slice a n c) n xs) (k : Nat) (hk : k ≤ n) : w.ownsRow B e 1 (.slice a k c) k (xs.take k) := by
  obtain ⟨h1, ⟨h2, h3⟩ | ⟨g, cap, cur, h2, hg, hh, h4, h5, h6, h7⟩⟩ := h
  · injection h2 with h2 _ h4
    subst h2; subst h4
    have : k = 0 := by omega
    subst this
    exact ⟨by simp, .inl ⟨rfl, rfl⟩⟩
  · injection h2 with h2 _ h8
    subst h2; subst h8
    refine ⟨by rw [List.length_take, h1]; omega, .inr ⟨g, c, cur, rfl, hg, hh, by omega, h5, h6, ?_⟩⟩
    rw [← h7, List.take_take]
    congr 1
    omega

theorem size_byte : ∀ w : World, (sizeOf 5).run Try.prog w = .ok 1 w := by intro w; kernel_rfl
theorem size_change : ∀ w : World, (sizeOf 83).run Try.prog w = .ok 1 w := by intro w; kernel_rfl

/-- What is replayed. -/
def replay (D : Dk) (j : Nat) : DM := (D.chs.take j).foldl Ch.on D.safe
theorem replay_next {D : Dk} {j : Nat} {c : Ch} (h : D.chs[j]? = some c) : replay D (j + 1) = c.on (replay D j) := by
  rw [replay, List.take_add_one, h, List.foldl_append]; rfl
theorem fits_foldl {n : Nat} : ∀ (cs : List Ch) {m : DM}, fits n m → (∀ c ∈ cs, c.fits n) → fits n (cs.foldl Ch.on m)
  | [], _, h, _ => h
  | c :: r, m, h, hc => fits_foldl r (on_fits h (hc c (by simp))) (fun d hd => hc d (by simp [hd]))
theorem replay_fits {D : Dk} (ok : Ok D) (j : Nat) : fits D.files.length (replay D j) := fits_foldl _ ok.safe (fun c hc => ok.chs c (List.mem_of_mem_take hc))

theorem cutTo_le (f : Fl) (kv : Int) (h : f.safe ≤ f.data.length) : ∃ n : Nat, n ≤ f.data.length ∧ f.safe ≤ n ∧ (f.safe : Int) + kv % ((f.data.length : Int) - f.safe + 1) = (n : Int) ∧ cutTo f kv = ⟨f.data.take n, n⟩ := by
  have h0 := Int.emod_nonneg kv (show ((f.data.length : Int) - f.safe + 1) ≠ 0 by omega)
  have h1 := Int.emod_lt_of_pos kv (show 0 < ((f.data.length : Int) - f.safe + 1) by omega)
  refine ⟨f.safe + (kv % ((f.data.length : Int) - f.safe + 1)).toNat, by omega, by omega, by omega, rfl⟩

/-- The disk behind a restart that replays m changes. -/
def restarted (D : Dk) (m : Nat) : Dk :=
  { D with now := replay D m, safe := replay D m, chs := [], down := false, left := 0, files := cutAll D.crash.2 0 (numsOf (replay D m)) D.files, used := usedOf (cutAll D.crash.2 0 (numsOf (replay D m)) D.files) (replay D m) }

/-- Restart, as the program does it. -/
def restartN (D : Dk) : Int × Dk :=
  if !D.down then (5, D) else (0, restarted D (D.crash.1 % ((D.chs.length : Int) + 1)).toNat)

theorem cutAll_length (keep : List Int) : ∀ (ns : List Nat) (i : Nat) (fs : List Fl), (cutAll keep i ns fs).length = fs.length
  | [], _, _ => rfl
  | n :: r, i, fs => by rw [cutAll, cutAll_length keep r, List.length_set]
end Go.Proofs.Ytcfdfpjemonhoaa.Dk
