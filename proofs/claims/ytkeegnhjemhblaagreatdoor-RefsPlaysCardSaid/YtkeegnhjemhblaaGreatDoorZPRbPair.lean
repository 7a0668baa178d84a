import Derived.Test.YtkeegnhjemhblaaGreatDoorZPRbKit
import Derived.Test.YtkeegnhjemhblaaGreatDoorZPRfAdd
import Derived.Test.YtkeegnhjemhblaaGreatDoorZPRfTurns
import Derived.Test.YtkeegnhjemhblaaGreatDoorZPRfBack
import Derived.BigQuiet
import Derived.Deep.QuietTactic
set_option linter.unusedSimpArgs false
set_option linter.unusedVariables false
/-
  A book of the program's beside the reference's, both the same: what a call on both leaves.
-/
namespace Go.Proofs.YtkeegnhjemhblaaGreatDoor.Rb
open Go.RowKit Go.Maps Go.WideMaps Go.Proofs.YtkeegnhjemhblaaGreatDoor.Rf

/-- The blocks of a book of the program's. -/
def pbB (g b : Nat) (Z : BM) : List Nat := g :: b :: enB Z
theorem pbB_cases {g b x : Nat} {Z : BM} (h : x ∈ pbB g b Z) : x = g ∨ x = b ∨ ∃ p ∈ Z, x ∈ ob p.2.1 := by
  rw [pbB, List.mem_cons, List.mem_cons] at h
  exact h.imp id (fun h => h.imp id (fun h => List.mem_flatMap.1 h))
theorem pbB_g {g b : Nat} {Z : BM} : g ∈ pbB g b Z := List.mem_cons_self ..
theorem pbB_b {g b : Nat} {Z : BM} : b ∈ pbB g b Z := List.mem_cons_of_mem _ (List.mem_cons_self ..)
theorem pbB_e {g b x : Nat} {Z : BM} {p} (hp : p ∈ Z) (h : x ∈ ob p.2.1) : x ∈ pbB g b Z := List.mem_cons_of_mem _ (List.mem_cons_of_mem _ (enB_mem hp h))
section
variable {B : Nat} {w w' : World} {g b : Nat} {Z : BM}
theorem _root_.Go.Proofs.YtkeegnhjemhblaaGreatDoor.Rf.BookAt.keptP (h : BookAt noSp B w g b Z) (hb : ∀ x ∈ pbB g b Z, w'.heap[x]? = w.heap[x]?) : BookAt noSp B w' g b Z :=
  ⟨(hb g pbB_g).trans h.book, ownsMap_block h.map (hb b pbB_b), fun p hp => rowS_kept (h.each p hp) (fun x hx _ => hb x (pbB_e hp hx)), h.gb, h.off, h.apart, h.baseg, h.baseb, fun _ hp => False.elim hp⟩
theorem _root_.Go.Proofs.YtkeegnhjemhblaaGreatDoor.Rf.BookAt.ltP {X : Spect} (h : BookAt X B w g b Z) : ∀ x ∈ pbB g b Z, x < w.heap.size := by
  intro x hx
  rcases pbB_cases hx with rfl | rfl | ⟨p, hp, hx⟩
  · exact h.lt_g
  · exact h.lt_b
  · exact rowS_lt (h.each p hp) x hx
theorem _root_.Go.Proofs.YtkeegnhjemhblaaGreatDoor.Rf.BookAt.geP {X : Spect} (h : BookAt X B w g b Z) : ∀ x ∈ pbB g b Z, B ≤ x := by
  intro x hx
  rcases pbB_cases hx with rfl | rfl | ⟨p, hp, hx⟩
  · exact h.baseg
  · exact h.baseb
  · exact rowS_ge (h.each p hp) x hx
end
/-- All blocks that are none of the book's. -/
def allSp (w : World) (g b : Nat) (Z : BM) : Spect := fun p => w.heap[p.1]? = some p.2 ∧ p.1 ∉ pbB g b Z
theorem book_all {B : Nat} {w : World} {g b : Nat} {Z : BM} (h : BookAt noSp B w g b Z) : BookAt (allSp w g b Z) B w g b Z :=
  ⟨h.book, h.map, h.each, h.gb, h.off, h.apart, h.baseg, h.baseb, fun _ hp => ⟨hp.1, fun e => hp.2 (e ▸ pbB_g), fun e => hp.2 (e ▸ pbB_b), fun _ hq hx => hp.2 (pbB_e hq hx)⟩⟩
/-- What a call did to the blocks that it works on. -/
structure Eff (X Y : List Nat) (w w' : World) : Prop where
  turn : Turn X w w'
  new_ : ∀ x ∈ Y, x ∈ X ∨ w.heap.size ≤ x
theorem Eff.of_below {X : List Nat} {w w' : World} (h : Below w.heap.size w w') : Eff X X w w' := ⟨Turn.of_below h, fun _ h => .inl h⟩
theorem Eff.trans {X Y V : List Nat} {a b c : World} (h : Eff X Y a b) (k : Eff Y V b c) : Eff X V a c :=
  ⟨h.turn.trans k.turn h.new_, fun x hx => (k.new_ x hx).elim (h.new_ x) (fun h2 => .inr (Nat.le_trans h.turn.size h2))⟩
theorem Eff.after {X Y : List Nat} {a b c : World} (h : Below a.heap.size a b) (k : Eff X Y b c) : Eff X Y a c := (Eff.of_below h).trans k
theorem Eff.then {X Y : List Nat} {a b c : World} (h : Eff X Y a b) (k : Below b.heap.size b c) : Eff X Y a c := h.trans (Eff.of_below k)
theorem Eff.left {X Y : List Nat} (V : List Nat) {a b : World} (h : Eff X Y a b) : Eff (X ++ V) (Y ++ V) a b :=
  ⟨h.turn.mono (fun x hx => List.mem_append_left _ hx), fun x hx => (List.mem_append.1 hx).elim (fun h2 => (h.new_ x h2).imp (fun h3 => List.mem_append_left _ h3) id) (fun h2 => .inl (List.mem_append_right _ h2))⟩
theorem Eff.right {X Y : List Nat} (V : List Nat) {a b : World} (h : Eff X Y a b) : Eff (V ++ X) (V ++ Y) a b :=
  ⟨h.turn.mono (fun x hx => List.mem_append_right _ hx), fun x hx => (List.mem_append.1 hx).elim (fun h2 => .inl (List.mem_append_left _ h2)) (fun h2 => (h.new_ x h2).imp (fun h3 => List.mem_append_right _ h3) id)⟩
theorem Eff.below {X Y : List Nat} {B : Nat} {a b : World} (h : Eff X Y a b) (hX : ∀ x ∈ X, B ≤ x) (hB : B ≤ a.heap.size) : Below B a b := h.turn.below hX hB
theorem bk_eff {B : Nat} {w w' : World} {g b : Nat} {Z : BM} {r : Value} {K : BK} {e : Ending} (h : BookAt noSp B w g b Z) (hp : BkPost (allSp w g b Z) B w g b r K e w') :
    ∃ Z', e = .returned r ∧ BookAt noSp B w' g b Z' ∧ plainB Z' = K ∧ Eff (pbB g b Z) (pbB g b Z') w w' := by
  obtain ⟨Z', he, hk, hpl, hb⟩ := hp
  have key : ∀ k, k < w.heap.size → k ∉ pbB g b Z → w'.heap[k]? = w.heap[k]? ∧ k ∉ pbB g b Z' := fun k hk1 hk2 => by
    obtain ⟨o, ho⟩ : ∃ o, w.heap[k]? = some o := ⟨_, Array.getElem?_eq_getElem hk1⟩
    obtain ⟨s1, s2, s3, s4⟩ := hk.spec (k, o) ⟨ho, hk2⟩
    refine ⟨s1.trans ho.symm, fun hc => ?_⟩
    rcases pbB_cases hc with rfl | rfl | ⟨p, hp, hx⟩
    · exact s2 rfl
    · exact s3 rfl
    · exact s4 p hp hx
  refine ⟨Z', he, hk.alone, hpl, ⟨⟨hb.os, hb.tape, hb.output, hb.size, fun k hk1 hk2 => (key k hk1 hk2).1⟩, fun x hx => ?_⟩⟩
  by_cases hx1 : x < w.heap.size
  · exact .inl (Classical.byContradiction fun hx2 => (key x hx1 hx2).2 hx)
  · exact .inr (by omega)
theorem rb_eff {B : Nat} {w w' : World} {r : Nat} {v : Value} {Z : BM} {c : Int} {K : BK} {e : Ending} (hp : RBPost B w r v Z c K e w') :
    ∃ v' Z', e = .returned (.int .i64 c) ∧ RBk B w' r v' Z' ∧ plainB Z' = K ∧ Eff (rbB r v Z) (rbB r v' Z') w w' := by
  obtain ⟨he, v', Z', h1, h2, h3, h4, _⟩ := hp
  exact ⟨v', Z', he, h1, h2, ⟨h3.mono (fun x hx => by
    rcases List.mem_cons.1 hx with rfl | hx
    · exact rbB_r
    · exact rbB_v hx), h4⟩⟩
/-- A book of the program's and one of the reference's, apart. -/
structure Pair (B : Nat) (w : World) (g b : Nat) (Z1 : BM) (r : Nat) (v : Value) (Z2 : BM) (K1 K2 : BK) : Prop where
  bk : BookAt noSp B w g b Z1
  rb : RBk B w r v Z2
  e1 : plainB Z1 = K1
  e2 : plainB Z2 = K2
  ok : OkB K1
  ok2 : OkB K2
  ap : ∀ x ∈ pbB g b Z1, x ∉ rbB r v Z2
def prB (g b : Nat) (Z1 : BM) (r : Nat) (v : Value) (Z2 : BM) : List Nat := pbB g b Z1 ++ rbB r v Z2
section
variable {B : Nat} {w w' : World} {g b : Nat} {Z1 : BM} {r : Nat} {v : Value} {Z2 : BM} {K1 K2 : BK}
theorem Pair.lt (h : Pair B w g b Z1 r v Z2 K1 K2) : ∀ x ∈ prB g b Z1 r v Z2, x < w.heap.size := fun x hx => (List.mem_append.1 hx).elim (h.bk.ltP x) (h.rb.lt x)
theorem Pair.ge (h : Pair B w g b Z1 r v Z2 K1 K2) : ∀ x ∈ prB g b Z1 r v Z2, B ≤ x := fun x hx => (List.mem_append.1 hx).elim (h.bk.geP x) (h.rb.ge x)
theorem Pair.kept (h : Pair B w g b Z1 r v Z2 K1 K2) (hb : ∀ x ∈ prB g b Z1 r v Z2, w'.heap[x]? = w.heap[x]?) : Pair B w' g b Z1 r v Z2 K1 K2 :=
  ⟨h.bk.keptP (fun x hx => hb x (List.mem_append_left _ hx)), h.rb.kept (fun x hx => hb x (List.mem_append_right _ hx)), h.e1, h.e2, h.ok, h.ok2, h.ap⟩
theorem Pair.below (h : Pair B w g b Z1 r v Z2 K1 K2) (hb : Below w.heap.size w w') : Pair B w' g b Z1 r v Z2 K1 K2 := h.kept (fun x hx => hb.block x (h.lt x hx))
theorem Pair.size (h : Pair B w g b Z1 r v Z2 K1 K2) : B ≤ w.heap.size := h.rb.size
/-- A call on both, one behind the other. -/
theorem Pair.both {w1 w2 w3 w4 : World} {Z1' : BM} {v' : Value} {Z2' : BM} {K1' K2' : BK} (h : Pair B w g b Z1 r v Z2 K1 K2) (b1 : Below w.heap.size w w1)
    (p1 : BookAt noSp B w2 g b Z1') (q1 : plainB Z1' = K1') (f1 : Eff (pbB g b Z1) (pbB g b Z1') w1 w2) (b2 : Below w2.heap.size w2 w3)
    (p2 : RBk B w4 r v' Z2') (q2 : plainB Z2' = K2') (f2 : Eff (rbB r v Z2) (rbB r v' Z2') w3 w4) (ok : OkB K1') (ok2 : OkB K2') :
    Pair B w4 g b Z1' r v' Z2' K1' K2' ∧ Eff (prB g b Z1 r v Z2) (prB g b Z1' r v' Z2') w w4 := by
  have l1 := h.below b1
  have hap : ∀ x ∈ pbB g b Z1', x ∉ rbB r v Z2 := fun x hx hc => by
    rcases f1.new_ x hx with h1 | h1
    · exact h.ap x h1 hc
    · have := l1.rb.lt x hc; omega
  have e12 := f1.then b2
  refine ⟨⟨p1.keptP (fun x hx => ?_), p2, q1, q2, ok, ok2, fun x hx hc => ?_⟩, ?_⟩
  · have hl := p1.ltP x hx
    exact (f2.turn.block x (Nat.lt_of_lt_of_le hl b2.size) (hap x hx)).trans (b2.block x hl)
  · rcases f2.new_ x hc with h1 | h1
    · exact hap x hx h1
    · have := p1.ltP x hx; have := b2.size; omega
  · exact Eff.after b1 ((e12.left (rbB r v Z2)).trans (f2.right (pbB g b Z1')))
/-- The reference's book lies as it was behind the program's call. -/
theorem Pair.rbk (h : Pair B w g b Z1 r v Z2 K1 K2) {w1 w2 w3 : World} {Z1' : BM} (b1 : Below w.heap.size w w1) (f1 : Eff (pbB g b Z1) (pbB g b Z1') w1 w2) (b2 : Below w2.heap.size w2 w3) : RBk B w3 r v Z2 := by
  have l1 := h.below b1
  refine l1.rb.kept (fun x hx => ?_)
  have hl := l1.rb.lt x hx
  exact (b2.block x (Nat.lt_of_lt_of_le hl f1.turn.size)).trans (f1.turn.block x hl (fun hc => h.ap x hc hx))
end
end Go.Proofs.YtkeegnhjemhblaaGreatDoor.Rb
/-
  The contract of the reference's at: a branch's place.
-/
namespace Go.Proofs.YtkeegnhjemhblaaGreatDoor.Rb
open Go.RowKit Go.Maps Go.WideMaps Go.Proofs.YtkeegnhjemhblaaGreatDoor.Rf

def atI {α : Type} (K : MV α) (k : List UInt8) : Int := match atN K k with
  | some i => (i : Int)
  | none => -1
theorem at_hit {α : Type} {K : MV α} {k : List UInt8} {i : Nat} {p} (hp : K[i]? = some p) (hk : p.1 = k) (hn : ∀ x ∈ K.take i, x.1 ≠ k) : atI K k = (i : Int) := by
  obtain ⟨hi, rfl⟩ := List.getElem?_eq_some_iff.1 hp
  have : atN K k = some i := List.findIdx?_eq_some_iff_getElem.2 ⟨hi, by simpa using hk, fun j hj => by
    have := hn K[j] (List.mem_take_iff_getElem.2 ⟨j, by omega, rfl⟩)
    simpa using this⟩
  rw [atI, this]
theorem at_miss {α : Type} {K : MV α} {k : List UInt8} (hn : ∀ x ∈ K, x.1 ≠ k) : atI K k = -1 := by
  have : atN K k = none := List.findIdx?_eq_none_iff.2 (fun x hx => by simpa using hn x hx)
  rw [atI, this]
theorem RBk.cells {B : Nat} {w : World} {r : Nat} {v : Value} {Z : BM} (h : RBk B w r v Z) (hn : Z.length ≠ 0) : ∃ g cap, v = .slice (some ⟨g, 0, none⟩) Z.length cap ∧ g < w.heap.size ∧ ∀ (i : Nat) p, Z[i]? = some p → w.cell? ⟨g, i * 2, none⟩ = some (.string ⟨p.1.toArray⟩) ∧ w.cell? ⟨g, i * 2 + 1, none⟩ = some p.2.1 := by
  obtain ⟨g, cap, hv, hg, _, hc⟩ := rowS_form h.row hn
  exact ⟨g, cap, hv, hg, fun i p hp => ⟨hc _ _ (bcells_at hp).1, hc _ _ (bcells_at hp).2⟩⟩
set_option linter.unusedSimpArgs false in
set_option maxHeartbeats 4000000 in
set_option maxRecDepth 100000 in
theorem rat_any (B : Nat) (w : World) (r : Nat) (v : Value) (Z : BM) (k : List UInt8) (hn : Z.length ≤ 1000) (h : RBk B w r v Z) :
    Calls Tryz.prog 43 #[ptr r, .string ⟨k.toArray⟩] w fun e w' => e = .returned (.int .i64 (atI Z k)) ∧ Below w.heap.size w w' := by
  obtain ⟨va, vc, hv⟩ := rowS_slice h.row
  have H := Lib.hid h
  have KC : Hid (∀ w' : World, Below w.heap.size w w' → w'.cell? ⟨r, 0, none⟩ = some (.slice va Z.length vc)) := Lib.hid (fun w' hb => by rw [← hv]; exact cell_of_heap (h.below hb).book)
  have HV := Lib.hid hv
  clear h hv
  unfold ptr
  go_enter Tryz.func43, Tryz.ntmps43
  go_wp2
  go_loopw [5] (fun v5 wr => ∃ i : Nat, i ≤ Z.length ∧ v5 = .int .i64 (i : Int) ∧ Hid (∀ x ∈ Z.take i, x.1 ≠ k) ∧ Hid (Below w.heap.size w wr)) (fun v5 _ => Z.length - (RowKit.intOf v5).toNat)
  case atStart => exact ⟨0, Nat.zero_le _, rfl, Lib.hid (fun x hx => by simp at hx), Lib.hid (Below.refl _ _)⟩
  case round =>
    obtain ⟨i, hi, rfl, HM, HB⟩ := hrel
    have k0 := KC.out wr HB.out
    by_cases hil : (i : Int) < (Z.length : Int)
    · have hi2 : i < Z.length := by omega
      have h0 : (0 : Int) ≤ (i : Int) := by omega
      obtain ⟨p, hp⟩ : ∃ p, Z[i]? = some p := ⟨_, List.getElem?_eq_getElem hi2⟩
      obtain ⟨g, cap, hv, _, hc⟩ := (H.out.below HB.out).cells (by omega)
      rw [HV.out] at hv
      injection hv with e1 _ e3
      subst e1 e3
      have c0 := (hc i p hp).1
      have HP := Lib.hid hp
      clear hc hp
      by_cases hk : p.1 = k
      · have q1 : (p.1 == k) = true := by simpa using hk
        have HR : Hid (atI Z k = (i : Int)) := Lib.hid (at_hit HP.out hk HM.out)
        clear hk
        go_wp2
        go_ret
        exact ⟨(by rw [HR.out]; rfl), HB.out⟩
      · have q1 : (p.1 == k) = false := by simpa using hk
        have HM2 : Hid (∀ x ∈ Z.take (i + 1), x.1 ≠ k) := Lib.hid (fun x hx => by
          rw [List.take_add_one, HP.out] at hx
          rcases List.mem_append.1 hx with hx | hx
          · exact HM.out x hx
          · obtain rfl := List.mem_singleton.1 hx; exact hk)
        clear hk
        go_wp2
        go_roundw
        case rel => exact ⟨i + 1, by omega, by go_num, HM2, HB⟩
        case measure => simp [RowKit.intOf]; omega
    · obtain rfl : i = Z.length := by omega
      have HR : Hid (atI Z k = -1) := Lib.hid (at_miss (fun x hx => HM.out x (by rw [List.take_length]; exact hx)))
      go_wp2
      go_ret
      exact ⟨(by rw [HR.out]; rfl), HB.out⟩
end Go.Proofs.YtkeegnhjemhblaaGreatDoor.Rb
/-
  The contracts of the reference's Log and Branches.
-/
namespace Go.Proofs.YtkeegnhjemhblaaGreatDoor.Rb
open Go.RowKit Go.Maps Go.WideMaps Go.Proofs.YtkeegnhjemhblaaGreatDoor.Rf

theorem logV_none {Z : BM} {k : List UInt8} (h : atN Z k = none) : logV Z k = (.slice none 0 0, 6) ∧ atI Z k = -1 := by
  rw [logV, (at_none h).1, atI, h]; exact ⟨rfl, rfl⟩
theorem logV_some {Z : BM} {k : List UInt8} {i : Nat} {n} (h : atN Z k = some i) (hn : getM Z k = some n) : logV Z k = (n.1, 0) ∧ atI Z k = (i : Int) := by
  rw [logV, hn, atI, h]; exact ⟨rfl, rfl⟩
set_option linter.unusedSimpArgs false in
set_option maxHeartbeats 4000000 in
set_option maxRecDepth 100000 in
theorem rlog_any (B : Nat) (w : World) (r : Nat) (v : Value) (Z : BM) (k : List UInt8) (hn : Z.length ≤ 1000) (h : RBk B w r v Z) :
    Calls Tryz.prog 52 #[ptr r, .string ⟨k.toArray⟩] w fun e w' => e = .returned (.tuple #[(logV Z k).1, .int .i64 (logV Z k).2]) ∧ Below w.heap.size w w' := by
  have AT := rat_any B w r v Z k hn h
  unfold ptr at *
  cases ha : atN Z k with
  | none =>
    obtain ⟨e1, e2⟩ := logV_none ha
    rw [e1]
    rw [e2] at AT
    have AT := Lib.hid AT
    clear h ha e1 e2
    go_enter Tryz.func52, Tryz.ntmps52
    go_wp2_with fail
    refine AT.out.mono ?_
    rintro ex w1 ⟨rfl, hb⟩
    go_wp2
    go_ret2
    exact ⟨rfl, hb⟩
  | some i =>
    obtain ⟨n, hz, hg⟩ := at_some ha
    obtain ⟨e1, e2⟩ := logV_some ha hg
    rw [e1]
    rw [e2] at AT
    have AT := Lib.hid AT
    have hil : i < Z.length := (List.getElem?_eq_some_iff.1 hz).1
    have KC : Hid (∀ w' : World, Below w.heap.size w w' → ∃ g c, w'.cell? ⟨r, 0, none⟩ = some (.slice (some ⟨g, 0, none⟩) Z.length c) ∧ w'.cell? ⟨g, i * 2 + 1, none⟩ = some n.1) := Lib.hid (fun w' hb => by
      obtain ⟨g, c, hv, _, hc⟩ := (h.below hb).cells (by omega)
      exact ⟨g, c, by rw [← hv]; exact cell_of_heap (h.below hb).book, (hc i _ hz).2⟩)
    have h0 : (0 : Int) ≤ (i : Int) := by omega
    have hi2 : (i : Int) < (Z.length : Int) := by omega
    have hge : ¬ (i : Int) < 0 := by omega
    clear h ha e1 e2 hz hg
    go_enter Tryz.func52, Tryz.ntmps52
    go_wp2_with fail
    refine AT.out.mono ?_
    rintro ex w1 ⟨rfl, hb⟩
    obtain ⟨g, c, c0, c1⟩ := KC.out w1 hb
    have HB := Lib.hid hb
    clear hb AT
    go_wp2
    go_ret2
    exact ⟨rfl, HB.out⟩
theorem bytes_lt : ∀ {a b : List UInt8}, bytesBefore a b = true → a < b
  | [], [], h => by cases h
  | [], _ :: _, _ => List.nil_lt_cons _ _
  | _ :: _, [], h => by cases h
  | a :: r, b :: s, h => by
    have h2 : (decide (a < b) || (a == b && bytesBefore r s)) = true := h
    rw [Bool.or_eq_true, decide_eq_true_eq, Bool.and_eq_true, beq_iff_eq] at h2
    rw [List.cons_lt_cons_iff]
    exact h2.imp id (fun h => ⟨h.1, bytes_lt h.2⟩)
theorem infoSt : (Tryz.prog.info? 9).map (fun i => (i.zero, i.size, i.bytes)) = some (some (.string ⟨#[]⟩), 1, 16) := by kernel_rfl
theorem info_parts {T : TypeId} {z : Value} {s b : Nat} (h : (Tryz.prog.info? T).map (fun i => (i.zero, i.size, i.bytes)) = some (some z, s, b)) : ∃ i, Tryz.prog.info? T = some i ∧ i.zero = some z ∧ i.size = s ∧ i.bytes = b := by
  obtain ⟨i, hi, e⟩ := Option.map_eq_some_iff.1 h
  injection e with e1 e2
  injection e2 with e2 e3
  exact ⟨i, hi, e1, e2, e3⟩
theorem hold_new {w : World} {c : Value} {T : TypeId} : HoldN (w.alloc (.cells #[c] T)) (.slice (some ⟨w.heap.size, 0, none⟩) 1 1) 1 [c] := .inl ⟨⟨w.heap.size, 0, none⟩, 1, rfl, fun j u hj => by
  rw [Addr.add_lit, Nat.zero_add, cell_of_heap (MapKept.heap_alloc w _).1]
  cases j with
  | zero => exact hj
  | succ j => simp at hj⟩
theorem names_srt {α : Type} {K : MV α} (h : SrtM K) : names K = K.map (·.1) := by
  rw [names]
  refine List.mergeSort_of_pairwise ?_
  rw [List.pairwise_map]
  refine List.Pairwise.imp ?_ h
  intro a b hab
  have h3 : a.1 < b.1 := bytes_lt hab
  simpa using Std.le_of_lt h3
set_option linter.unusedSimpArgs false in
set_option maxHeartbeats 4000000 in
set_option maxRecDepth 100000 in
theorem rbranches_any (B : Nat) (w : World) (r : Nat) (v : Value) (Z : BM) (hn : Z.length ≤ 1000) (h : RBk B w r v Z) :
    Calls Tryz.prog 48 #[ptr r] w fun e w' => ∃ v', e = .returned v' ∧ w'.ownsRow w.heap.size 9 1 v' Z.length (Z.map fun p => Value.string ⟨p.1.toArray⟩) ∧ Below w.heap.size w w' := by
  obtain ⟨i0, hi0, hz0, hz1, hz2⟩ := info_parts infoSt
  have hz3 : (Value.string ⟨#[]⟩).cells.size = 1 := by kernel_rfl
  obtain ⟨va, vc, hv⟩ := rowS_slice h.row
  have H := Lib.hid h
  have KC : Hid (∀ w' : World, Below w.heap.size w w' → w'.cell? ⟨r, 0, none⟩ = some (.slice va Z.length vc)) := Lib.hid (fun w' hb => by rw [← hv]; exact cell_of_heap (h.below hb).book)
  have HV := Lib.hid hv
  clear h hv
  unfold ptr
  go_enter Tryz.func48, Tryz.ntmps48
  go_wp2
  go_loopw [3, 4] (fun v3 v4 wr => ∃ i : Nat, i ≤ Z.length ∧ v4 = .int .i64 (i : Int) ∧ Hid (wr.ownsRow w.heap.size 9 1 v3 i ((Z.take i).map fun p => Value.string ⟨p.1.toArray⟩)) ∧ Hid (Below w.heap.size w wr)) (fun _ v4 _ => Z.length - (RowKit.intOf v4).toNat)
  case atStart => exact ⟨0, Nat.zero_le _, rfl, Lib.hid (World.ownsRow_nil _ _ _ _), Lib.hid (Below.refl _ _)⟩
  case round =>
    obtain ⟨i, hi, rfl, HO, HB⟩ := hrel
    have k0 := KC.out wr HB.out
    by_cases hil : (i : Int) < (Z.length : Int)
    · have hi2 : i < Z.length := by omega
      have h0 : (0 : Int) ≤ (i : Int) := by omega
      obtain ⟨p, hp⟩ : ∃ p, Z[i]? = some p := ⟨_, List.getElem?_eq_getElem hi2⟩
      obtain ⟨g, cap, hv, _, hc⟩ := (H.out.below HB.out).cells (by omega)
      rw [HV.out] at hv
      injection hv with e1 _ e3
      subst e1 e3
      have c0 := (hc i p hp).1
      have HTK : Hid ((Z.take (i + 1)).map (fun p => Value.string ⟨p.1.toArray⟩) = (Z.take i).map (fun p => Value.string ⟨p.1.toArray⟩) ++ [Value.string ⟨p.1.toArray⟩]) := Lib.hid (by rw [List.take_add_one, hp]; simp)
      have HSZ : Hid (w.heap.size ≤ wr.heap.size) := Lib.hid HB.out.size
      clear hc hp
      have HAL : Hid (Below wr.heap.size wr (wr.alloc (.cells #[.string ⟨p.1.toArray⟩] 9))) := Lib.hid ((Below.refl _ _).alloc (Nat.le_refl _) _)
      go_wp2_with (first
        | (at_builtin; refine wpList_appendN 1 (by decide) rfl _ _ 92 rfl w.heap.size 9 i0 _ 16 Tryz.underlying92 hi0 hz0 hz1 hz2 hz3 _ i ((Z.take i).map fun p => Value.string ⟨p.1.toArray⟩) rfl (rowS_kept HO.out (fun b _ hl => HAL.out.block b hl)) _ 1 [.string ⟨p.1.toArray⟩] rfl hold_new rfl (by intro u hu; rw [List.mem_singleton] at hu; subst hu; rfl) (by unfold maxLen; omega) (by omega) (Nat.le_trans HSZ.out HAL.out.size) ?_
           intro vb wb ho2 hg2 hv2
           have HOB := Lib.hid ho2
           have HB2 : Hid (Below w.heap.size w wb) := Lib.hid ((HB.out.trans (HAL.out.mono HSZ.out)).grown hg2 (Nat.le_trans HSZ.out HAL.out.size) (fun k hk => rowS_ge HO.out k (by simp [ob]; exact hk)))
           clear ho2 hg2 hv2)
        | fail)
      go_roundw
      case rel => exact ⟨i + 1, by omega, by go_num, Lib.hid (by rw [HTK.out]; exact HOB.out), HB2⟩
      case measure => simp [RowKit.intOf]; omega
    · obtain rfl : i = Z.length := by omega
      go_wp2
      go_ret
      refine ⟨_, rfl, ?_, HB.out⟩
      have := HO.out
      rw [List.take_length] at this
      exact this
end Go.Proofs.YtkeegnhjemhblaaGreatDoor.Rb
