import Derived.Test.YthcjjekkjbidlaaDoorZPShFixed
import Derived.StillTail
import Derived.BigQuiet
import Derived.Deep.QuietTactic
set_option linter.unusedSimpArgs false
set_option linter.unusedVariables false
/-
  Bytes of a row appended to a row of bytes.
-/
namespace Go.Proofs.YthcjjekkjbidlaaDoor.Sh
open Go.RowKit Go.Maps Go.WideMaps Go.Proofs.YthcjjekkjbidlaaDoor.Rf Go.Proofs.YthcjjekkjbidlaaDoor.Rd Go.Proofs.YthcjjekkjbidlaaDoor.St

section
variable {w : World} {B : Nat}
theorem run_append_MB (t ty : TypeId) (i : TypeInfo) (ht : Tryd.prog.underlying t = some (.slice 5)) (hi : Tryd.prog.info? 5 = some i) (hz : i.zero = some (.int .u8 0))
    (hsize : i.size = 1) (hby : i.bytes = 1) (v : Value) (l s : List UInt8) (ad : Addr) (n c : Nat) (hn : n = s.length) (hsrc : ∀ j u, (Lib.byteCells s)[j]? = some u → w.cell? (ad.add j) = some u) (hown : RowM w B v l) (hbytes : l.length + s.length ≤ 140737488355328) (hbase : B ≤ w.heap.size) :
    ∃ v' w', (Builtin.append_ #[t, t] ty #[v, .slice (some ad) n c]).run Tryd.prog w = .ok v' w' ∧ RowM w' B v' (l ++ s) ∧ w.grownBy w' v.ownBlock ∧ ∀ x ∈ ob v', x ∈ ob v ∨ w.heap.size ≤ x := by
  obtain ⟨g, cap, cur, fz, rfl, hB, hg, hfz, hnc, hcm, hcs, htk⟩ := hown
  subst hn
  have hbl : (Lib.byteCells l).length = l.length := Lib.byteCells_length l
  have hsl : (Lib.byteCells s).length = s.length := Lib.byteCells_length s
  have hcat : Lib.byteCells (l ++ s) = Lib.byteCells l ++ Lib.byteCells s := by simp [Lib.byteCells]
  by_cases hroom : l.length + s.length ≤ cap
  · have hf := run_firstCells_some (P := Tryd.prog) (w := w) 1 s.length ad s.length c (Lib.byteCells s) (by rw [hsl]; omega) hsrc
    have hst := run_storeCells_atM Tryd.prog g l.length 5 fz (Lib.byteCells s) 0 cur w hg (by rw [hsl]; omega) (by rw [hsl]; omega) (fun v hv => by obtain ⟨b, _, rfl⟩ := List.mem_map.1 hv; rfl)
    simp only [Nat.add_zero, hsl] at hst
    have hr : (Builtin.append_ #[t, t] ty #[.slice (some ⟨g, 0, none⟩) l.length cap, .slice (some ad) s.length c]).run Tryd.prog w =
        .ok (.slice (some ⟨g, 0, none⟩) (l.length + s.length) cap) (w.setRow g (cur.toList.take l.length ++ Lib.byteCells s ++ cur.toList.drop (l.length + s.length)).toArray) := by
      simp [Builtin.append_, run_underlying ht, sizeOf, typeInfo, hi, hsize, Builtin.lenOf, hroom, hf, Addr.add_lit, hst]
    refine ⟨_, _, hr, ⟨g, cap, _, fz, by rw [List.length_append], hB, Go.setRow_heap w g cur _ 5 _ hg, by rw [List.length_append]; omega, by rw [List.length_append]; exact hroom, hcm, ?_, ?_⟩, ⟨rfl, rfl, rfl, by simp [World.setRow], fun k _ hk => setRow_other w g k _ (fun e => hk (by simp [Value.ownBlock, e]))⟩, fun x hx => .inl (by simpa [ob, Value.ownBlock] using hx)⟩
    · simp only [List.size_toArray, List.length_append, List.length_take, List.length_drop, Array.length_toList, hsl]
      omega
    · rw [htk, hcat]
      refine List.take_left' ?_
      rw [List.length_append, hbl, hsl, List.length_append]
  · have holds : ∀ j u, (Lib.byteCells l)[j]? = some u → w.cell? ((⟨g, 0, none⟩ : Addr).add j) = some u := fun j u hu => by
      have hr0 : RowM w B (.slice (some ⟨g, 0, none⟩) l.length cap) l := ⟨g, cap, cur, fz, rfl, hB, hg, hfz, hnc, hcm, hcs, htk⟩
      have := hr0.range j u hu
      rw [Addr.add_lit]; simpa using this
    have h63 : l.length + s.length ≤ maxLen := by unfold maxLen; omega
    have hr := run_append_grow (P := Tryd.prog) (w := w) t ty 5 i (.int .u8 0) ht hi hz ⟨g, 0, none⟩ l.length cap (Lib.byteCells l) (by rw [hsize, hbl]; omega) holds ad s.length c (Lib.byteCells s) (by rw [hsize, hsl]; omega) hsrc (by omega) (by omega) (by rw [hby]; exact growslice_fits (by omega) (by omega))
    have hge := grownCap_ge w (l.length + s.length) cap 5
    have hcm2 : grownCap w (l.length + s.length) cap 5 ≤ maxLen := grownCap_le_maxLen w (l.length + s.length) cap 5 h63
    refine ⟨_, _, hr, ⟨w.heap.size, _, _, (0, 0), by rw [List.length_append], hbase, (MapKept.heap_alloc w.drew _).1, .inl (Nat.zero_le _), by rw [List.length_append]; exact hge, hcm2, ?_, ?_⟩, ⟨rfl, rfl, rfl, by simp, fun k hk _ => Below.heap_alloc w.drew _ _ hk⟩, fun x hx => .inr ?_⟩
    · have hz1 : (Value.int IntKind.u8 0).cells.size = 1 := rfl
      simp only [Array.size_append, List.size_toArray, size_zeroCells, hz1, hbl, hsl]
      omega
    · simp only [Array.toList_append, List.append_assoc]
      rw [← List.append_assoc, hcat]
      refine List.take_left' ?_
      rw [List.length_append, hbl, hsl, List.length_append]
    · have : x = w.heap.size := by simpa [ob, Value.ownBlock] using hx
      omega
theorem wp_append_MB {o : Oper} {a : Act} {K : Act → World → Prop} {Q : Exit → Act → World → Prop} (sl x : Operand) (t : TypeId)
    (ho : o.op = .call { callee := .builtin .append, args := #[sl, x], argTypes := #[t, t] }) (i : TypeInfo)
    (ht : Tryd.prog.underlying t = some (.slice 5)) (hi : Tryd.prog.info? 5 = some i) (hz : i.zero = some (.int .u8 0)) (hsize : i.size = 1) (hby : i.bytes = 1)
    (v : Value) (l s : List UInt8) (ad : Addr) (n c : Nat) (hn : n = s.length) (hsrc : ∀ j u, (Lib.byteCells s)[j]? = some u → w.cell? (ad.add j) = some u) (hs : a.eval sl = v) (hown : RowM w B v l) (hx : a.eval x = .slice (some ad) n c) (hbytes : l.length + s.length ≤ 140737488355328) (hbase : B ≤ w.heap.size)
    (h : ∀ v' w', RowM w' B v' (l ++ s) → w.grownBy w' v.ownBlock → (∀ x ∈ ob v', x ∈ ob v ∨ w.heap.size ≤ x) → K (a.put o.dst v') w') : o.wp Tryd.prog a w K Q := by
  obtain ⟨v', w', hr, h2, h3, h4⟩ := run_append_MB (B := B) t o.type i ht hi hz hsize hby v l s ad n c hn hsrc hown hbytes hbase
  unfold Oper.wp execOp
  simp only [ho, resolve, invoke, builtin, Sem.run_bind, Sem.run_pure, Result.andThen_ok, List.map_toArray, List.map_cons, List.map_nil, hs, hx, hr]
  exact h v' w' h2 h3 h4
theorem wpList_append_MB {ops : Array Oper} {rest : List Oper} {o : Oper} {a : Act} {Q : Exit → Act → World → Prop} (hgd : o.guard = none) (sl x : Operand) (t : TypeId)
    (ho : o.op = .call { callee := .builtin .append, args := #[sl, x], argTypes := #[t, t] }) (i : TypeInfo)
    (ht : Tryd.prog.underlying t = some (.slice 5)) (hi : Tryd.prog.info? 5 = some i) (hz : i.zero = some (.int .u8 0)) (hsize : i.size = 1) (hby : i.bytes = 1)
    (v : Value) (l s : List UInt8) (ad : Addr) (n c : Nat) (hn : n = s.length) (hsrc : ∀ j u, (Lib.byteCells s)[j]? = some u → w.cell? (ad.add j) = some u) (hs : a.eval sl = v) (hown : RowM w B v l) (hx : a.eval x = .slice (some ad) n c) (hbytes : l.length + s.length ≤ 140737488355328) (hbase : B ≤ w.heap.size)
    (h : ∀ v' w', RowM w' B v' (l ++ s) → w.grownBy w' v.ownBlock → wpList Tryd.prog ops Q rest (a.put o.dst v') w') : wpList Tryd.prog ops Q (o :: rest) a w :=
  wpList_plain hgd fun _ hK => wp_append_MB sl x t ho i ht hi hz hsize hby v l s ad n c hn hsrc hs hown hx hbytes hbase (fun v' w' h1 h2 _ => hK _ _ (h v' w' h1 h2))
theorem wpList_append_MS {ops : Array Oper} {rest : List Oper} {o : Oper} {a : Act} {Q : Exit → Act → World → Prop} (hgd : o.guard = none) (sl x : Operand) (t u : TypeId)
    (ho : o.op = .call { callee := .builtin .append, args := #[sl, x], argTypes := #[t, u] }) (i : TypeInfo)
    (ht : Tryd.prog.underlying t = some (.slice 5)) (hu : Tryd.prog.underlying u = some .string) (hi : Tryd.prog.info? 5 = some i) (hz : i.zero = some (.int .u8 0)) (hsize : i.size = 1) (hby : i.bytes = 1)
    (v : Value) (l s : List UInt8) (hs : a.eval sl = v) (hown : RowM w B v l) (hx : a.eval x = .string ⟨s.toArray⟩) (hbytes : l.length + s.length ≤ 140737488355328) (hbase : B ≤ w.heap.size)
    (h : ∀ v' w', RowM w' B v' (l ++ s) → w.grownBy w' v.ownBlock → wpList Tryd.prog ops Q rest (a.put o.dst v') w') : wpList Tryd.prog ops Q (o :: rest) a w :=
  wpList_plain hgd fun _ hK => wp_append_M sl x t u ho i ht hu hi hz hsize hby v l s hs hown hx hbytes hbase (fun v' w' h1 h2 _ => hK _ _ (h v' w' h1 h2))
end
theorem RowM.slice {w : World} {B : Nat} {v : Value} {l : List UInt8} (h : RowM w B v l) : ∃ g cap, v = .slice (some ⟨g, 0, none⟩) l.length cap := by
  obtain ⟨g, cap, _, _, hv, _⟩ := h
  exact ⟨g, cap, hv⟩
theorem bytesWorld_below (w : World) (e : TypeId) (s : ByteArray) : Below w.heap.size w (Lib.bytesWorld w e s) :=
  ⟨rfl, rfl, rfl, by rw [Lib.bytesWorld_size]; omega, fun k hk => Lib.bytesWorld_at_old w e s k hk⟩
end Go.Proofs.YthcjjekkjbidlaaDoor.Sh
/-
  A region that draws its order: quiet operations first, and a chain of others behind them.
-/
namespace Go.Proofs.YthcjjekkjbidlaaDoor.Sh
open Go

section
variable {P : Program} {ops : Array Oper} {md : Region.Mode} {C : World → Prop}
/-- All of the first n came up, whatever the order; then L. -/
def AllFirst (P : Program) (md : Region.Mode) (ops : Array Oper) (C : World → Prop) (n : Nat) (L : Array Bool → Act → Prop) : Nat → Array Bool → Act → Prop
  | 0 => L
  | f + 1 => fun ls a => Region.ready md ops ls ≠ [] ∧ ∀ i ∈ Region.ready md ops ls, i < n ∧ qOp P ops C i (AllFirst P md ops C n L f (ls.setIfInBounds i true)) a
theorem AllFirst.any {n g : Nat} {L : Array Bool → Act → Prop} {Q : Exit → Act → World → Prop} (hL : ∀ ls a w, C w → L ls a → wpAny P md ops Q g ls a w) (f : Nat) :
    ∀ (ls : Array Bool) (a : Act) (w : World), C w → AllFirst P md ops C n L f ls a → wpAny P md ops Q (f + g) ls a w := by
  induction f with
  | zero => intro ls a w hw h; rw [Nat.zero_add]; exact hL _ _ _ hw h
  | succ f ih =>
    intro ls a w hw h
    rw [Nat.succ_add]
    exact ⟨fun e => absurd e h.1, fun i hi => wpOp_of_qOp hw (fun a' w' hw' h' => ih _ a' w' hw' h') (h.2 i hi).2⟩
theorem AllFirst.take {n i : Nat} {oi : Oper} {v : Value} {L : Array Bool → Act → Prop} (hi : ops[i]? = some oi) (hsel : ∀ (j : Nat) (o : Oper) cs b, ops[j]? = some o → o.op ≠ .select cs b)
    (hs : Region.sinkB md ops n = true) (hc : Region.chainB md ops n = true) (hn : n < ops.size) (hin : i < n) (hend : ∀ ls a, L ls a → ∀ j ∈ Region.ready md ops ls, n ≤ j) (f : Nat) :
    ∀ (ls : Array Bool) (a : Act), HeadInv md ops n ls →
      (∀ j oj, ops[j]? = some oj → j ≠ i → ls.getD j true = false → (∀ e ∈ oj.after, Region.binds md e = true → e.on ≠ i) → oi.apart ops oj = true) →
      i ∈ Region.ready md ops ls → YieldsIn P ops C oi v a →
      AllFirst P md ops C n L f (ls.setIfInBounds i true) (a.put oi.dst v) → AllFirst P md ops C n L (f + 1) ls a := by
  have early : ∀ (ls : Array Bool), HeadInv md ops n ls → i ∈ Region.ready md ops ls → ∀ j ∈ Region.ready md ops ls, j < n := fun ls inv hr j hj => by
    rcases Nat.lt_or_ge j n with h | h
    · exact h
    · exact absurd hj (tail_waits hs hc hn inv _ i rfl hin (mem_ready.1 hr).1 j h)
  induction f with
  | zero =>
    intro ls a inv _ hr hy H
    refine ⟨List.ne_nil_of_mem hr, fun j hj => ⟨early ls inv hr j hj, ?_⟩⟩
    by_cases hji : j = i
    · subst hji; exact hy.qOp hi H
    · have := hend _ _ H j (ready_mono hj hji)
      have := early ls inv hr j hj
      omega
  | succ f ih =>
    intro ls a inv hfree hr hy H
    have hun := (mem_ready.1 hr).1
    refine ⟨List.ne_nil_of_mem hr, fun j hj => ⟨early ls inv hr j hj, ?_⟩⟩
    by_cases hji : j = i
    · subst hji; exact hy.qOp hi H
    · obtain ⟨hjun, oj, hoj, hall⟩ := mem_ready.1 hj
      have hnot : ∀ e ∈ oj.after, Region.binds md e = true → e.on ≠ i := fun e he hb heq => by
        have h1 := hall e he hb
        rw [heq, getD_both hun] at h1
        cases h1
      have h2 := qOp_put hoj (hfree j oj hoj hji hjun hnot) (fun cs b => hsel i oi cs b hi) (fun cs b => hsel j oj cs b hoj) hy (H.2 j (ready_mono hj hji)).2
      refine qOp_mono (fun a' h3 => ih (ls.setIfInBounds j true) a' (inv.set hj (early ls inv hr j hj)) ?_ (ready_mono hr (Ne.symm hji)) h3.1 ?_) h2
      · intro k ok hk hki hu hno
        refine hfree k ok hk hki ?_ hno
        by_cases hjk : j = k
        · subst hjk; exact hjun
        · rwa [getD_set_ne true hjk] at hu
      · rw [Array.setIfInBounds_comm _ _ hji]
        exact h3.2
theorem AllFirst.lex {n g : Nat} {T : Act → Prop} (hsel : Region.noSelect ops = true) (hs : Region.sinkB md ops n = true) (hc : Region.chainB md ops n = true) (hn : n < ops.size) :
    ∀ (l : List Oper) (k : Nat) (ls : Array Bool) (a : Act), (∀ j, j < l.length → l[j]? = ops[k + j]?) → k + l.length = n → HeadInv md ops n ls →
    Region.lexHead md ops g l.length k ls = true → wpQuiet P ops C T l a → AllFirst P md ops C n (fun ls' a' => Region.seqB md ops g n ls' = true ∧ T a') l.length ls a
  | [], k, ls, a, _, hk, _, hB, h => by
    obtain rfl : k = n := by simpa using hk
    exact ⟨by simpa [Region.lexHead] using hB, h⟩
  | o :: l, k, ls, a, hl, hk, inv, hB, h => by
    have h0 : ops[k]? = some o := by simpa using (hl 0 (by simp)).symm
    simp only [List.length_cons, Region.lexHead, Bool.and_eq_true] at hB
    simp only [List.length_cons] at hk
    have hr : k ∈ Region.ready md ops ls := by simpa using hB.1.1
    obtain ⟨v, hy, hK⟩ := yieldsIn_of_qOp (P := P) (C := C) (K := wpQuiet P ops C T l) h0 (by unfold qOp; simp only [h0]; exact h)
    refine AllFirst.take h0 (Region.noSelect_spec hsel) hs hc hn (by omega) (fun ls' a' hL => seqB_ready hL.1) l.length ls a inv (Region.free_spec h0 hB.1.2) hr hy ?_
    refine AllFirst.lex hsel hs hc hn l (k + 1) _ _ (fun j hj => ?_) (by omega) (inv.set hr (by omega)) hB.2 hK
    have := hl (j + 1) (by simp; omega)
    simpa [Nat.add_assoc, Nat.add_comm 1 j] using this
/-- The first n operations are quiet; the others follow one by one. -/
theorem wp_region_quiet_tail {id : Nat} {Q : Exit → Act → World → Prop} {a : Act} {w : World} {l : List Oper} (n : Nat) (hm : P.follows .mixedOrders = true) (hB : Region.lexTailB .any l.toArray n = true)
    (h : wpQuiet P l.toArray (fun w' => ∃ m, w' = w.drewN m) (fun a' => ∀ w', (∃ m, w' = w.drewN m) → wpList P l.toArray Q (l.drop n) a' w') (l.take n) a) : (Code.region id l.toArray true).wp P Q a w := by
  simp only [Region.lexTailB, Bool.and_eq_true, decide_eq_true_eq] at hB
  obtain ⟨⟨⟨⟨hsel, hn⟩, hs⟩, hc⟩, hlex⟩ := hB
  have hn' : n < l.length := by simpa using hn
  have htl : (l.take n).length = n := by simp; omega
  have hdl : (l.drop n).length = l.toArray.size - n := by simp
  have inv : HeadInv .any l.toArray n (Array.replicate l.toArray.size false) :=
    ⟨by simp, fun j oj _ hl => (by rw [getD_replicate_false] at hl; cases hl), fun t _ ht => getD_in (by simpa using ht) (getD_replicate_false _ _)⟩
  have H := AllFirst.lex (md := .any) (g := l.toArray.size - n) hsel hs hc hn (l.take n) 0 _ a (fun j hj => by
    rw [htl] at hj; simp [hj]) (by simpa using htl) inv (by rw [htl]; exact hlex) h
  have K := AllFirst.any (Q := Q) (g := l.toArray.size - n) (fun ls a' w' hw' hL => by
    have := wpAny_of_seq (md := .any) (Q' := Q) (l.drop n) n ls a' w' (fun j => by simp [List.getElem?_drop]) (by rw [hdl]; exact hL.1) (hL.2 w' hw')
    rwa [hdl] at this) _ _ _ { w with drawn := w.drawn + 1 } ⟨1, rfl⟩ H
  rw [htl, show n + (l.toArray.size - n) = l.toArray.size by omega] at K
  exact wp_region_any hm K
end
end Go.Proofs.YthcjjekkjbidlaaDoor.Sh
