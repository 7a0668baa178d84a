import Derived.Test.YtkdkifciajfpnaaDoorZPRowKit
import Derived.Test.YtkdkifciajfpnaaDoorZPNmSplitCore
import Derived.WalkSmall
import Derived.Test.YtkdkifciajfpnaaDoorZPStKit
import Derived.Test.YtkdkifciajfpnaaDoorZPNmPaths
set_option linter.unusedSimpArgs false
set_option linter.unusedVariables false
/-
  Plain facts on runes and their bytes: there and back. No program stands in this text.
-/
namespace Go.Proofs.YtkdkifciajfpnaaDoor.Nm

def goodRune (r : Nat) : Bool := decide (r < 55296) || (decide (57344 ≤ r) && decide (r ≤ 1114111))

theorem valid_good (r : Nat) : Utf8.valid (r : Int) = goodRune r := by
  rw [Bool.eq_iff_iff]; simp [Utf8.valid, goodRune]; omega

theorem enc_1 {r : Nat} (h : r < 128) : enc r = [UInt8.ofNat r] := by
  have hv : Utf8.valid (r : Int) = true := by rw [valid_good]; simp [goodRune]; omega
  rw [enc_eq, Utf8.encode]
  simp only [hv, if_true, Int.toNat_natCast]
  rw [if_pos h]
theorem enc_2 {r : Nat} (h1 : ¬ r < 128) (h : r < 2048) : enc r = [UInt8.ofNat (192 + r / 64), UInt8.ofNat (128 + r % 64)] := by
  have hv : Utf8.valid (r : Int) = true := by rw [valid_good]; simp [goodRune]; omega
  rw [enc_eq, Utf8.encode]
  simp only [hv, if_true, Int.toNat_natCast]
  rw [if_neg h1, if_pos h]
theorem enc_3 {r : Nat} (hg : goodRune r = true) (h1 : ¬ r < 2048) (h : r < 65536) : enc r = [UInt8.ofNat (224 + r / 4096), UInt8.ofNat (128 + r / 64 % 64), UInt8.ofNat (128 + r % 64)] := by
  have hv : Utf8.valid (r : Int) = true := by rw [valid_good]; exact hg
  rw [enc_eq, Utf8.encode]
  simp only [hv, if_true, Int.toNat_natCast]
  rw [if_neg (by omega), if_neg h1, if_pos h]
theorem enc_4 {r : Nat} (hg : goodRune r = true) (h1 : ¬ r < 65536) : enc r = [UInt8.ofNat (240 + r / 262144), UInt8.ofNat (128 + r / 4096 % 64), UInt8.ofNat (128 + r / 64 % 64), UInt8.ofNat (128 + r % 64)] := by
  have hv : Utf8.valid (r : Int) = true := by rw [valid_good]; exact hg
  rw [enc_eq, Utf8.encode]
  simp only [hv, if_true, Int.toNat_natCast]
  rw [if_neg (by omega), if_neg (by omega), if_neg h1]

theorem byte_ofNat {n : Nat} (h : n < 256) : (UInt8.ofNat n).toNat = n := by simp; omega

theorem byteN_0 (a : UInt8) (t : List UInt8) : byteN (a :: t) 0 = a.toNat := rfl
theorem byteN_1 (a b : UInt8) (t : List UInt8) : byteN (a :: b :: t) 1 = b.toNat := rfl
theorem byteN_2 (a b c : UInt8) (t : List UInt8) : byteN (a :: b :: c :: t) 2 = c.toNat := rfl
theorem byteN_3 (a b c d : UInt8) (t : List UInt8) : byteN (a :: b :: c :: d :: t) 3 = d.toNat := rfl

theorem ofNat_byte {a : UInt8} {n : Nat} (h : a.toNat = n) : UInt8.ofNat n = a := by rw [← h]; simp

set_option maxHeartbeats 1000000 in
/-- What is read as a rune is that rune's bytes. -/
theorem enc_dec (l : List UInt8) (hne : l ≠ []) (hb : ¬ ((dec l).1 = 65533 ∧ (dec l).2 = 1)) : goodRune (dec l).1 = true ∧ l.take (dec l).2 = enc (dec l).1 := by
  have hn : 1 ≤ l.length := by cases l with | nil => exact absurd rfl hne | cons a t => simp
  have h0 := byteN_lt l 0; have h1 := byteN_lt l 1; have h2 := byteN_lt l 2; have h3 := byteN_lt l 3
  revert hb
  generalize hd : dec l = d
  unfold dec Lib.decodeN at hd
  split at hd
  · subst hd; intro _
    obtain ⟨a, t, rfl⟩ : ∃ a t, l = a :: t := by cases l with | nil => exact absurd rfl hne | cons a t => exact ⟨a, t, rfl⟩
    rw [byteN_0] at *
    refine ⟨by simp [goodRune]; omega, ?_⟩
    rw [enc_1 (by omega)]
    simp
  split at hd
  · rename_i hx hy
    split at hd
    · subst hd; intro _
      obtain ⟨a, b, t, rfl⟩ : ∃ a b t, l = a :: b :: t := by
        rcases l with _ | ⟨a, _ | ⟨b, t⟩⟩
        · exact absurd rfl hne
        · exfalso; have := hy.2.1; simp at this
        · exact ⟨a, b, t, rfl⟩
      rw [byteN_0, byteN_1] at *
      refine ⟨by simp [goodRune]; omega, ?_⟩
      rw [enc_2 (by omega) (by omega), ofNat_byte (a := a) (by omega), ofNat_byte (a := b) (by omega)]
      rfl
    · subst hd; intro hb; exact absurd ⟨rfl, rfl⟩ hb
  split at hd
  · rename_i hx hy hz
    split at hd
    · subst hd; intro _
      rename_i hq
      obtain ⟨a, b, c, t, rfl⟩ : ∃ a b c t, l = a :: b :: c :: t := by
        rcases l with _ | ⟨a, _ | ⟨b, _ | ⟨c, t⟩⟩⟩
        · exact absurd rfl hne
        · exfalso; have := hz.2.2.1; simp at this
        · exfalso; have := hz.2.2.1; simp at this
        · exact ⟨a, b, c, t, rfl⟩
      rw [byteN_0, byteN_1, byteN_2] at *
      have hg : goodRune (a.toNat % 16 * 4096 + b.toNat % 64 * 64 + c.toNat % 64) = true := by simp [goodRune]; omega
      refine ⟨hg, ?_⟩
      rw [enc_3 hg (by omega) (by omega), ofNat_byte (a := a) (by omega), ofNat_byte (a := b) (by omega), ofNat_byte (a := c) (by omega)]
      rfl
    · subst hd; intro hb; exact absurd ⟨rfl, rfl⟩ hb
  split at hd
  · rename_i hx hy hz hu
    split at hd
    · subst hd; intro _
      rename_i hq
      obtain ⟨a, b, c, e, t, rfl⟩ : ∃ a b c e t, l = a :: b :: c :: e :: t := by
        rcases l with _ | ⟨a, _ | ⟨b, _ | ⟨c, _ | ⟨e, t⟩⟩⟩⟩
        · exact absurd rfl hne
        · exfalso; have := hu.2.2.2.1; simp at this
        · exfalso; have := hu.2.2.2.1; simp at this
        · exfalso; have := hu.2.2.2.1; simp at this
        · exact ⟨a, b, c, e, t, rfl⟩
      rw [byteN_0, byteN_1, byteN_2, byteN_3] at *
      have hg : goodRune (a.toNat % 8 * 262144 + b.toNat % 64 * 4096 + c.toNat % 64 * 64 + e.toNat % 64) = true := by simp [goodRune]; omega
      refine ⟨hg, ?_⟩
      rw [enc_4 hg (by omega), ofNat_byte (a := a) (by omega), ofNat_byte (a := b) (by omega), ofNat_byte (a := c) (by omega), ofNat_byte (a := e) (by omega)]
      rfl
    · subst hd; intro hb; exact absurd ⟨rfl, rfl⟩ hb
  · subst hd; intro hb; exact absurd ⟨rfl, rfl⟩ hb

/-- A text of whole runes is its runes' bytes. -/
theorem encs_runes (l : List UInt8) (h : okB l = true) : encs ((seg l).map (·.1)) = l ∧ ∀ r ∈ (seg l).map (·.1), goodRune r = true := by
  induction l using seg_induct with
  | h0 => simp [encs]
  | h1 l hne ih =>
    have hb := isBad_head l hne
    rw [okB, seg_cons l hne, List.all_cons, ← okB, Bool.and_eq_true] at h
    have hg : ¬ ((dec l).1 = 65533 ∧ (dec l).2 = 1) := by
      intro e
      have := h.1
      rw [hb, e.1, e.2] at this; simp at this
    obtain ⟨g1, g2⟩ := enc_dec l hne hg
    obtain ⟨i1, i2⟩ := ih h.2
    rw [seg_cons l hne]
    refine ⟨?_, ?_⟩
    · rw [List.map_cons, encs_cons, i1, ← g2, List.take_append_drop]
    · intro r hr
      rw [List.map_cons] at hr
      rcases List.mem_cons.1 hr with rfl | hr
      · exact g1
      · exact i2 r hr

end Go.Proofs.YtkdkifciajfpnaaDoor.Nm
/-
  The contracts of the reference's Rune, runes, Check, Runes, Less.
-/
namespace Go.Proofs.YtkdkifciajfpnaaDoor.Nm
open Go.RowKit

/-- The tables of unicode/utf8 as their initialisers lay them. -/
abbrev Tabs (w : World) : Prop := Lib.Utf8Tabs 1 2 w

theorem Tabs.below {w w' : World} (h : Tabs w) (hb : Below w.heap.size w w') : Tabs w' := by
  obtain ⟨h1, h2⟩ := h
  have k1 := World.block_lt_of_cell? _ _ (h1 0 (by omega))
  have k2 := World.block_lt_of_cell? _ _ (h2 0 (by omega)).1
  refine ⟨fun c hc => ?_, fun i hi => ⟨?_, ?_⟩⟩
  · rw [hb.cell (p := ⟨1, c, none⟩) k1]; exact h1 c hc
  · rw [hb.cell (p := ⟨2, 2 * i, none⟩) k2]; exact (h2 i hi).1
  · rw [hb.cell (p := ⟨2, 2 * i + 1, none⟩) k2]; exact (h2 i hi).2

end Go.Proofs.YtkdkifciajfpnaaDoor.Nm
/-
  A row of texts that is only read.
-/
namespace Go.Proofs.YtkdkifciajfpnaaDoor.St
open Go.RowKit Go.Maps Go.WideMaps Go.Proofs.YtkdkifciajfpnaaDoor.Rf Go.Proofs.YtkdkifciajfpnaaDoor.Rd

/-- A slice that reads as texts. -/
def StrsAt (w : World) (v : Value) (ps : List (List UInt8)) : Prop :=
  ∃ a cap, v = .slice a ps.length cap ∧ ps.length ≤ maxLen ∧ (∀ p ∈ ps, p.length ≤ maxLen) ∧
    (ps ≠ [] → ∃ b o, a = some ⟨b, o, none⟩ ∧ b < w.heap.size ∧ ∀ (i : Nat) p, ps[i]? = some p → w.cell? ⟨b, o + i, none⟩ = some (.string ⟨p.toArray⟩))
theorem StrsAt.turn {X : List Nat} {w w' : World} {v : Value} {ps : List (List UInt8)} (h : StrsAt w v ps) (ht : Turn X w w') (hX : ∀ b ∈ X, ∀ o n cap, v ≠ .slice (some ⟨b, o, none⟩) n cap) : StrsAt w' v ps := by
  obtain ⟨a, cap, rfl, h1, h2, h3⟩ := h
  refine ⟨a, cap, rfl, h1, h2, fun hne => ?_⟩
  obtain ⟨b, o, rfl, hb, hc⟩ := h3 hne
  refine ⟨b, o, rfl, Nat.lt_of_lt_of_le hb ht.size, fun i p hp => ?_⟩
  rw [World.cell?_of_block (a := ⟨b, o + i, none⟩) (ht.block b hb (fun hm => hX b hm o _ cap rfl))]
  exact hc i p hp
theorem StrsAt.below {w w' : World} {v : Value} {ps : List (List UInt8)} (h : StrsAt w v ps) (hb : Below w.heap.size w w') : StrsAt w' v ps :=
  h.turn (X := []) (Turn.of_below hb) (fun b hb => by cases hb)
end Go.Proofs.YtkdkifciajfpnaaDoor.St
/-
  How a tree lies in memory; the contract of look.
-/
namespace Go.Proofs.YtkdkifciajfpnaaDoor.Sr
open Go.RowKit Go.Maps Go.WideMaps Go.Proofs.YtkdkifciajfpnaaDoor.Rf Go.Proofs.YtkdkifciajfpnaaDoor.Nm Go.Proofs.YtkdkifciajfpnaaDoor.St

abbrev NdT : TypeId := 57
abbrev TrT : TypeId := 59
def mapV (m : Option Nat) : Value := .map m
def ptrO (p : Option Nat) : Value := .pointer (p.map fun n => ⟨n, 0, none⟩)
theorem ptrO_some (n : Nat) : ptrO (some n) = ptr n := rfl
theorem ptrO_none : ptrO none = .pointer none := rfl
/-- Attributes' seven cells. -/
def XA.cells (a : XA) (xv : Value) : List Value := [.int .u8 (a.node : Int), .int .u32 (a.mode : Int), .int .u32 (a.uid : Int), .int .u32 (a.gid : Int), .int .i64 a.mtime, .string ⟨a.target.toArray⟩, xv]
/-- A node's eleven. -/
def TE.cells (e : TE) : List Value := .int .u64 (e.ino : Int) :: .int .i64 e.tick :: (e.at_.cells e.xv ++ [.string ⟨e.data.toArray⟩, mapV e.m])
def xcells (xs : List (List UInt8 × List UInt8)) : List Value := xs.flatMap fun x => [.string ⟨x.1.toArray⟩, .string ⟨x.2.toArray⟩]
/-- A row of extended attributes that is only read. -/
def XsAt (w : World) (v : Value) (xs : List (List UInt8 × List UInt8)) : Prop :=
  ∃ a cap, v = .slice a xs.length cap ∧ xs.length ≤ maxLen ∧ (∀ x ∈ xs, x.1.length ≤ maxLen ∧ x.2.length ≤ maxLen) ∧
    (xs ≠ [] → ∃ b o, a = some ⟨b, o, none⟩ ∧ b < w.heap.size ∧ ∀ (i : Nat) x, xs[i]? = some x → w.cell? ⟨b, o + i * 2, none⟩ = some (.string ⟨x.1.toArray⟩) ∧ w.cell? ⟨b, o + i * 2 + 1, none⟩ = some (.string ⟨x.2.toArray⟩))
/-- The block that such a row reads. -/
def xob (xs : List (List UInt8 × List UInt8)) (v : Value) : List Nat :=
  match xs, v with
  | _ :: _, .slice (some a) _ _ => [a.block]
  | _, _ => []
theorem XsAt.kept {w w' : World} {v : Value} {xs : List (List UInt8 × List UInt8)} (h : XsAt w v xs) (hs : w.heap.size ≤ w'.heap.size) (hb : ∀ b ∈ xob xs v, w'.heap[b]? = w.heap[b]?) : XsAt w' v xs := by
  obtain ⟨a, cap, rfl, h1, h2, h3⟩ := h
  refine ⟨a, cap, rfl, h1, h2, fun hne => ?_⟩
  obtain ⟨b, o, rfl, hlt, hc⟩ := h3 hne
  have hbb : w'.heap[b]? = w.heap[b]? := hb b (by
    cases xs with
    | nil => exact absurd rfl hne
    | cons x r => simp [xob])
  refine ⟨b, o, rfl, Nat.lt_of_lt_of_le hlt hs, fun i x hx => ?_⟩
  rw [World.cell?_of_block (a := ⟨b, o + i * 2, none⟩) hbb, World.cell?_of_block (a := ⟨b, o + i * 2 + 1, none⟩) hbb]
  exact hc i x hx
theorem XsAt.lt {w : World} {v : Value} {xs : List (List UInt8 × List UInt8)} (h : XsAt w v xs) : ∀ b ∈ xob xs v, b < w.heap.size := by
  obtain ⟨a, cap, rfl, h1, h2, h3⟩ := h
  intro b hb
  cases xs with
  | nil => simp [xob] at hb
  | cons x r =>
    obtain ⟨b', o, rfl, hlt, _⟩ := h3 (by simp)
    simp [xob] at hb
    subst hb; exact hlt

/-- A tree: its nodes, its clock, its greatest number, how many files were read. -/
structure Tr where
  L : List TE
  clock : Nat
  most : Nat
  reads : Nat
def ownE (e : TE) : List Nat := e.p :: e.m.toList
def ownL (L : List TE) : List Nat := L.flatMap ownE
def xobL (L : List TE) : List Nat := L.flatMap fun e => xob e.at_.xs e.xv
/-- What lies of one node. -/
structure NodeAt (w : World) (L : List TE) (e : TE) : Prop where
  cells : w.heap[e.p]? = some (.cells e.cells.toArray NdT)
  kids : ∀ b, e.m = some b → w.ownsMap Tryd.prog 9 Rv b 1000000 (toD ptr (kidsT L e.nm))
  xs : XsAt w e.xv e.at_.xs
structure TreeAt (B : Nat) (w : World) (r : Nat) (T : Tr) : Prop where
  root : ∃ e, getT [] T.L = some e ∧ w.heap[r]? = some (.cells #[ptr e.p, .int .i64 (T.clock : Int), .int .u64 (T.most : Int), .int .i64 (T.reads : Int)] TrT)
  node : ∀ e ∈ T.L, NodeAt w T.L e
  nod : (r :: ownL T.L).Nodup
  xoff : ∀ b ∈ xobL T.L, b ∉ r :: ownL T.L
  base : ∀ b ∈ r :: (ownL T.L ++ xobL T.L), B ≤ b
  srt : SrtT T.L
  par : ∀ e ∈ T.L, ∀ n s, e.nm = n ++ [s] → ∃ u ∈ T.L, u.nm = n ∧ u.m ≠ none
  kind : ∀ e ∈ T.L, (e.at_.node = 2 ↔ e.m ≠ none)
theorem ownL_mem {L : List TE} {e : TE} (he : e ∈ L) : e.p ∈ ownL L := List.mem_flatMap.2 ⟨e, he, by simp [ownE]⟩
theorem ownL_mem2 {L : List TE} {e : TE} {b : Nat} (he : e ∈ L) (hb : e.m = some b) : b ∈ ownL L := List.mem_flatMap.2 ⟨e, he, by simp [ownE, hb]⟩
theorem NodeAt.kept {w w' : World} {L : List TE} {e : TE} (h : NodeAt w L e) (hs : w.heap.size ≤ w'.heap.size) (hb : ∀ b ∈ ownE e ++ xob e.at_.xs e.xv, w'.heap[b]? = w.heap[b]?) : NodeAt w' L e :=
  ⟨(hb _ (by simp [ownE])).trans h.cells, fun b hm => ownsMap_block (h.kids b hm) (hb b (by simp [ownE, hm])), h.xs.kept hs (fun b hx => hb b (by simp [hx]))⟩
theorem NodeAt.lt {w : World} {L : List TE} {e : TE} (h : NodeAt w L e) : ∀ b ∈ ownE e ++ xob e.at_.xs e.xv, b < w.heap.size := by
  intro b hb
  rcases List.mem_append.1 hb with hb | hb
  · rw [ownE, List.mem_cons] at hb
    rcases hb with rfl | hb
    · exact lt_of_heap h.cells
    · exact (h.kids b (by simpa using hb)).lt
  · exact h.xs.lt b hb
theorem TreeAt.kept {B : Nat} {w w' : World} {r : Nat} {T : Tr} (h : TreeAt B w r T) (hs : w.heap.size ≤ w'.heap.size) (hb : ∀ b ∈ r :: (ownL T.L ++ xobL T.L), w'.heap[b]? = w.heap[b]?) : TreeAt B w' r T := by
  refine ⟨?_, fun e he => (h.node e he).kept hs (fun b hx => hb b ?_), h.nod, h.xoff, h.base, h.srt, h.par, h.kind⟩
  · obtain ⟨e, h1, h2⟩ := h.root
    exact ⟨e, h1, (hb r (by simp)).trans h2⟩
  · rw [List.mem_cons, List.mem_append]
    rcases List.mem_append.1 hx with hx | hx
    · exact .inr (.inl (List.mem_flatMap.2 ⟨e, he, hx⟩))
    · exact .inr (.inr (List.mem_flatMap.2 ⟨e, he, hx⟩))
theorem TreeAt.lt {B : Nat} {w : World} {r : Nat} {T : Tr} (h : TreeAt B w r T) : ∀ b ∈ r :: (ownL T.L ++ xobL T.L), b < w.heap.size := by
  intro b hb
  rw [List.mem_cons, List.mem_append] at hb
  rcases hb with rfl | hb | hb
  · obtain ⟨e, _, h2⟩ := h.root; exact lt_of_heap h2
  · obtain ⟨e, he, hx⟩ := List.mem_flatMap.1 hb
    exact (h.node e he).lt b (by simp [hx])
  · obtain ⟨e, he, hx⟩ := List.mem_flatMap.1 hb
    exact (h.node e he).lt b (by simp [hx])
theorem TreeAt.below {B : Nat} {w w' : World} {r : Nat} {T : Tr} (h : TreeAt B w r T) (hb : Below w.heap.size w w') : TreeAt B w' r T :=
  h.kept hb.size (fun b hx => hb.block b (h.lt b hx))
theorem TreeAt.mono {B B' : Nat} {w : World} {r : Nat} {T : Tr} (h : TreeAt B w r T) (hB : B' ≤ B) : TreeAt B' w r T :=
  ⟨h.root, h.node, h.nod, h.xoff, fun b hb => Nat.le_trans hB (h.base b hb), h.srt, h.par, h.kind⟩
theorem zeroPN (w : World) : (zeroValue 52).run Tryd.prog w = .ok (.pointer none) w := by kernel_rfl

set_option maxRecDepth 100000 in
theorem kid_look {B : Nat} {w : World} {r : Nat} {T : Tr} (h : TreeAt B w r T) {e : TE} (he : e ∈ T.L) (s : List UInt8) (hs : s.length ≤ maxLen) :
    (Instr.lookup 55 (mapV e.m) (.string ⟨s.toArray⟩) false).run Tryd.prog w = .ok (ptrO ((getT (e.nm ++ [s]) T.L).map TE.p)) w := by
  cases hm : e.m with
  | some b =>
    have := look_run1 Tryd.underlying55 zeroPN ((h.node e he).kids b hm) ⟨s.toArray⟩ hs
    rw [show (⟨s.toArray⟩ : ByteArray).data.toList = s from by simp, kidsT_get h.srt] at this
    rw [mapV, this]
    cases (getT (e.nm ++ [s]) T.L).map TE.p <;> rfl
  | none =>
    have hn : getT (e.nm ++ [s]) T.L = none := by
      rw [getT_none]
      intro x hx hxn
      obtain ⟨u, hu, h1, h2⟩ := h.par x hx _ _ hxn
      rw [srtT_inj h.srt hu he h1] at h2
      exact h2 hm
    rw [hn]
    have hu : Tryd.prog.underlying 55 = _ := Tryd.underlying55
    rw [mapV]
    go_simp
    rfl
end Go.Proofs.YtkdkifciajfpnaaDoor.Sr
