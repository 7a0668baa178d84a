/-
  Rows of bytes that a call owns: read as a text, and a rune behind them.
-/
import Derived.Test.YtofdhhemdoodaaaDoorNmReadPlain
import Derived.Test.YtofdhhemdoodaaaDoorShelf
import Derived.Lib.BufSteps
import Derived.Lib.UnsafeStr
import Derived.Lib.RuneBytes
import Derived.Lib.BufferRead
import Derived.Deep.RegionLaw
namespace Go.Proofs.YtofdhhemdoodaaaDoor.Nm
open Go.RowKit

theorem enc_bad {r : Nat} (h : goodRune r = false) : enc r = [239, 191, 189] := by
  have hv : Utf8.valid (r : Int) = false := by rw [valid_good]; exact h
  rw [enc_eq, Utf8.encode]
  simp only [hv, Bool.false_eq_true, if_false]
  rw [show Utf8.runeError = 65533 from rfl, if_neg (by omega), if_neg (by omega), if_pos (by omega)]
  rfl

theorem cell_of_frozen {w : World} {g j : Nat} {cur : Array Value} {T : TypeId} {fz : Nat × Nat} (h : w.heap[g]? = some (.cells cur T fz)) : w.cell? ⟨g, j, none⟩ = cur[j]? := by
  simp [World.cell?, h]

theorem cells_enc (r : Nat) : Lib.runeCells (r : Int) = Lib.byteCells (enc r) := by
  have hb : ∀ n : Nat, n < 256 → Value.int .u8 ((n : Nat) : Int) = Value.int .u8 ((UInt8.ofNat n).toNat : Int) := fun n hn => by rw [byte_ofNat hn]
  cases hg : goodRune r with
  | false =>
    rw [enc_bad hg, Lib.runeCells, Lib.encodeRuneZ_bad (by simp [goodRune] at hg; omega)]; rfl
  | true =>
    have hg' : r < 55296 ∨ (57344 ≤ r ∧ r ≤ 1114111) := by simpa [goodRune] using hg
    by_cases h1 : r < 128
    · rw [enc_1 h1, Lib.runeCells, Lib.encodeRuneZ_one (by omega) (by omega)]
      simp only [Lib.byteCells, List.map_cons, List.map_nil]
      rw [← hb _ (by omega)]
    · by_cases h2 : r < 2048
      · rw [enc_2 h1 h2, Lib.runeCells, Lib.encodeRuneZ_two (by omega) (by omega)]
        simp only [Lib.byteCells, List.map_cons, List.map_nil]
        rw [← hb _ (by omega), ← hb _ (by omega)]
        rfl
      · by_cases h3 : r < 65536
        · rw [enc_3 hg h2 h3, Lib.runeCells, Lib.encodeRuneZ_three (by omega)]
          simp only [Lib.byteCells, List.map_cons, List.map_nil]
          rw [← hb _ (by omega), ← hb _ (by omega), ← hb _ (by omega)]
          rfl
        · rw [enc_4 hg h3, Lib.runeCells, Lib.encodeRuneZ_four (by omega) (by omega)]
          simp only [Lib.byteCells, List.map_cons, List.map_nil]
          rw [← hb _ (by omega), ← hb _ (by omega), ← hb _ (by omega), ← hb _ (by omega)]
          rfl

theorem ownBuf_below {B : Nat} {e : TypeId} {v : Value} {n : Nat} {xs : List Value} {W0 w w' : World} (h : Lib.OwnBuf B e v n xs W0 w) (hb : Below w.heap.size w w') : Lib.OwnBuf B e v n xs W0 w' := by
  obtain ⟨⟨h1, h2⟩, h3, h4⟩ := h
  refine ⟨⟨h1, ?_⟩, h3.trans (hb.mono h4), Nat.le_trans h4 hb.size⟩
  rcases h2 with h2 | ⟨g, cap, cur, fz, a, b, c, d⟩
  · exact .inl h2
  · exact .inr ⟨g, cap, cur, fz, a, b, by rw [hb.block g (Array.getElem?_eq_some_iff.1 c).1]; exact c, d⟩

/-- An own row of bytes, turned into a text. -/
theorem conv_owned (w : World) (B : Nat) (v : Value) (n : Nat) (L : List UInt8) (h : w.ownsRowF B 5 1 v n (Lib.byteCells L)) :
    (convert 49 9 v).run Tryd.prog w = .ok (.string ⟨L.toArray⟩) w := by
  obtain ⟨h1, h2⟩ := h
  rw [Lib.byteCells_length, Nat.mul_one] at h1
  rcases h2 with ⟨rfl, h2⟩ | ⟨g, cap, cur, fz, rfl, _, hc, _, hn, _, hsz, ht⟩
  · have hL : L = [] := List.eq_nil_of_length_eq_zero (by omega)
    subst hL
    exact Lib.run_convert_nil_bytes w 49 9 5 0 Tryd.underlying49 Tryd.underlying5 Tryd.underlying9
  · subst h1
    rw [run_convert_bytes_string w 49 9 5 _ _ _ Tryd.underlying49 Tryd.underlying5 Tryd.underlying9]
    have hl : (loadCells ⟨g, 0, none⟩ L.length).run Tryd.prog w = .ok ((L.map fun c : UInt8 => (c.toNat : Int)).map (Value.int .u8)).toArray w := by
      rw [run_loadCells w ⟨g, 0, none⟩ L.length (fun i => .int .u8 ((L.map fun c : UInt8 => (c.toNat : Int)).getD i 0)) (fun i hi => ?_)]
      · congr 2
        apply List.ext_getElem
        · simp
        · intro i h1 h2
          simp at h1
          simp [List.getD, List.getElem?_eq_getElem h1]
      · rw [Addr.add_lit, cell_of_frozen hc]
        have := congrArg (fun l => l[i]?) ht
        simp only [Nat.mul_one, List.getElem?_take_of_lt hi, Lib.byteCells, List.getElem?_map, List.getElem?_eq_getElem hi, Option.map_some] at this
        rw [Nat.zero_add, ← Array.getElem?_toList, this]
        simp [List.getD, List.getElem?_eq_getElem hi]
    rw [run_bytesToString w _ _ _ _ hl, foldl_push]
    simp
theorem ownBuf_drew {B : Nat} {e : TypeId} {v : Value} {n : Nat} {xs : List Value} {W0 w : World} (h : Lib.OwnBuf B e v n xs W0 w) : Lib.OwnBuf B e v n xs W0 w.drew :=
  ⟨h.1, h.2.1.drew, h.2.2⟩

/-- 'b = append(b, c)' as one step of a region that draws: b's row is the call's own. -/
theorem step_append_byte {P : Program} {ops : Array Oper} {o : Oper} {a : Act} {w : World} {K : Act → World → Prop} {Q : Exit → Act → World → Prop} {E : Prop}
    (hg : o.guard = none) (s x : Operand) (t : TypeId) (hop : o.op = Op.call { callee := Callee.builtin Builtin.append, args := #[s, x], argTypes := #[t, t] })
    (B : Nat) (e : TypeId) (i : TypeInfo) (h1 : P.underlying t = some (.slice e)) (h2 : P.info? e = some i) (h3 : i.zero = some (.int .u8 0)) (h4 : i.size = 1) (h5 : i.bytes = 1)
    (v : Value) (n : Nat) (xs : List Value) (hs : a.eval s = v) (W0 : World) (hb : Lib.OwnBuf B e v n xs W0 w)
    (c : Int) (ad : Addr) (cc : Nat) (hx : a.eval x = .slice (some ad) 1 cc) (hc : w.cell? ad = some (.int .u8 c)) (hlen : n + 1 ≤ 140737488355328)
    (hK : ∀ v' w', Lib.OwnBuf B e v' (n + 1) (xs ++ [.int .u8 c]) W0 w' → K (a.put o.dst v') w') :
    if Region.wanted o (yielded ops a.tmps) = true then Oper.wp P o a w K Q else E := by
  have hw : Region.wanted o (yielded ops a.tmps) = true := by simp [Region.wanted, hg]
  rw [if_pos hw]
  obtain ⟨v', w', hr, r2, r3, _⟩ := run_append_ownF (P := P) w B t o.type e i (.int .u8 0) 1 1 h1 h2 h3 h4 h5 rfl (by decide) v n xs hb.1 ad 1 cc [.int .u8 c] rfl (by
    intro j u hj
    match j, hj with
    | 0, hj => simp at hj; subst hj; simpa [Addr.add] using hc
    | (j + 1), hj => simp at hj) (by intro u hu; simp at hu; subst hu; rfl) (by unfold maxLen; omega) (by omega) hb.2.2
  unfold Oper.wp
  simp [execOp, hop, resolve, invoke, builtin, hs, hx, hr, Result.andThen]
  exact hK v' w' (hb.grown r2 r3)

/-- The same slice, with a byte behind. -/
theorem ownBuf_byte {B : Nat} {e : TypeId} {v : Value} {acc : List UInt8} {c : Int} {x : UInt8} {W0 w : World} (hc : c = (x.toNat : Int)) (h : Lib.OwnBuf B e v (acc.length + 1) (Lib.byteCells acc ++ [.int .u8 c]) W0 w) :
    Lib.OwnBuf B e v (acc ++ [x]).length (Lib.byteCells (acc ++ [x])) W0 w := by
  subst hc
  have e1 : (acc ++ [x]).length = acc.length + 1 := by simp
  have e2 : Lib.byteCells (acc ++ [x]) = Lib.byteCells acc ++ [.int .u8 (x.toNat : Int)] := by rw [Lib.byteCells, List.map_append]; rfl
  rw [e1, e2]; exact h
end Go.Proofs.YtofdhhemdoodaaaDoor.Nm
