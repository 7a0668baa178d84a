import Derived.Test.YtkeegnhjemhblaaGreatDoorZPRbStep
import Derived.Test.YtkeegnhjemhblaaGreatDoorZPRbPush
import Derived.Test.YtkeegnhjemhblaaGreatDoorZPRbSame
import Derived.Test.YtkeegnhjemhblaaGreatDoorZPRfBack
import Derived.Test.YtkeegnhjemhblaaGreatDoorZPRfOpsArg
set_option linter.unusedSimpArgs false
set_option linter.unusedVariables false
/-
  Two pairs of books, apart; the law's calls as they lie.
-/
namespace Go.Proofs.YtkeegnhjemhblaaGreatDoor.Rb
open Go.RowKit Go.Maps Go.WideMaps Go.Proofs.YtkeegnhjemhblaaGreatDoor.Rf

structure Two (B : Nat) (w : World) (g b : Nat) (Z1 : BM) (r : Nat) (v : Value) (Z2 : BM) (K : BK) (g' b' : Nat) (Y1 : BM) (r' : Nat) (v' : Value) (Y2 : BM) (K' : BK) : Prop where
  p1 : Pair B w g b Z1 r v Z2 K K
  p2 : Pair B w g' b' Y1 r' v' Y2 K' K'
  ap : ∀ x ∈ prB g b Z1 r v Z2, x ∉ prB g' b' Y1 r' v' Y2
section
variable {B : Nat} {w w' : World} {g b : Nat} {Z1 : BM} {r : Nat} {v : Value} {Z2 : BM} {K : BK} {g' b' : Nat} {Y1 : BM} {r' : Nat} {v' : Value} {Y2 : BM} {K' : BK}
theorem Two.swap (h : Two B w g b Z1 r v Z2 K g' b' Y1 r' v' Y2 K') : Two B w g' b' Y1 r' v' Y2 K' g b Z1 r v Z2 K := ⟨h.p2, h.p1, fun x hx hc => h.ap x hc hx⟩
theorem Two.below (h : Two B w g b Z1 r v Z2 K g' b' Y1 r' v' Y2 K') (hb : Below w.heap.size w w') : Two B w' g b Z1 r v Z2 K g' b' Y1 r' v' Y2 K' := ⟨h.p1.below hb, h.p2.below hb, h.ap⟩
theorem Two.step (h : Two B w g b Z1 r v Z2 K g' b' Y1 r' v' Y2 K') {Z1' : BM} {u' : Value} {Z2' : BM} {K1 : BK} (p : Pair B w' g b Z1' r u' Z2' K1 K1) (f : Eff (prB g b Z1 r v Z2) (prB g b Z1' r u' Z2') w w') :
    Two B w' g b Z1' r u' Z2' K1 g' b' Y1 r' v' Y2 K' := by
  refine ⟨p, h.p2.kept (fun x hx => f.turn.block x (h.p2.lt x hx) (fun hc => h.ap x hc hx)), fun x hx hc => ?_⟩
  rcases f.new_ x hx with h1 | h1
  · exact h.ap x h1 hc
  · have := h.p2.lt x hc; omega
theorem Pair.twin {w1 w2 : World} {T : BM} {Z' : BM} {r3 : Nat} (h : Pair B w g b Z1 r v Z2 K K) (b1 : Below w.heap.size w w1) (t1 : BookAt noSp w.heap.size w1 g' b' T) (e1 : ∀ k, getM (plainB T) k = getM (plainB Z1) k)
    (b2 : Below w1.heap.size w1 w2) (t2 : RBk w1.heap.size w2 r3 v' Z') (e2 : plainB Z' = plainB Z2) : Two B w2 g b Z1 r v Z2 K g' b' T r3 v' Z' K := by
  have hs := h.size
  have hT : plainB T = K := by
    rw [← h.e1]
    exact srt_ext ((srt_map _).2 (srt_own t1.map)) ((srt_map _).2 (srt_own h.bk.map)) e1
  have t1' := (t1.below b2).mono hs
  have t2' := t2.mono (Nat.le_trans hs b1.size)
  refine ⟨h.below (b1.trans (b2.mono b1.size)), ⟨t1', t2', hT, e2.trans h.e2, h.ok, h.ok, fun x hx hc => ?_⟩, fun x hx hc => ?_⟩
  · have := t1.ltP x hx; have := t2.ge x hc; omega
  · have h1 := h.lt x hx
    rcases List.mem_append.1 hc with h2 | h2
    · have := t1.geP x h2; omega
    · have := t2.ge x h2; have := b1.size; omega
end
theorem ba_of (S : ByteArray) : ∃ s : List UInt8, S = ⟨s.toArray⟩ := ⟨S.data.toList, by cases S; simp⟩
/-- The i-th call of a list, as it lies. -/
theorem ops_get {W : World} {a : Option Addr} {cap : Nat} {l : List OpX} (h : OpsAt W (.slice a l.length cap) l) {i : Nat} (hi : i < l.length) :
    ∃ kind t n c s u b o, s.length ≤ maxLen ∧ u.length ≤ maxLen ∧ a = some ⟨b, o, none⟩ ∧ b < W.heap.size ∧ ∀ w', Below W.heap.size W w' → w'.rangeAt b (o + i * 6) (opC kind s u c t n).toList := by
  obtain ⟨a', cap', hv, _, hc, hf⟩ := h
  injection hv with e1 _ _
  subst e1
  obtain ⟨y, hy⟩ : ∃ y, l[i]? = some y := ⟨_, List.getElem?_eq_getElem hi⟩
  obtain ⟨b, o, rfl, hb, hat⟩ := hc (by rintro rfl; simp at hi)
  have hfy := hf y (List.mem_of_getElem? hy)
  have hY := hat i y hy
  obtain ⟨kind, name, other, c, t, n⟩ := y
  obtain ⟨s, rfl⟩ := ba_of name
  obtain ⟨u, rfl⟩ := ba_of other
  exact ⟨kind, t, n, c, s, u, b, o, hfy.name, hfy.other, rfl, hb, fun w' hb' j v hj => (hb'.cell (p := ⟨b, o + i * 6 + j, none⟩) hb).trans (hY j v hj)⟩
theorem infoOp (kind t n : Int) (c : UInt8) (s u : List UInt8) : (Tryz.prog.info? 39).map (·.size) = some (opC kind s u c t n).toList.length := by kernel_rfl
end Go.Proofs.YtkeegnhjemhblaaGreatDoor.Rb
