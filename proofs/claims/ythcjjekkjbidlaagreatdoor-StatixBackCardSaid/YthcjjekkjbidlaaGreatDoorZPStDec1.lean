import Derived.Test.YthcjjekkjbidlaaGreatDoorZPStLen
import Derived.Test.YthcjjekkjbidlaaGreatDoorZPStRefPut
set_option linter.unusedSimpArgs false
set_option linter.unusedVariables false
/-
  Decode's parts: the front cut off, what can't be read gives up, a number, some bytes.
-/
namespace Go.Proofs.YthcjjekkjbidlaaGreatDoor.St
open Go.RowKit Go.Maps Go.WideMaps Go.Proofs.YthcjjekkjbidlaaGreatDoor.Rf Go.Proofs.YthcjjekkjbidlaaGreatDoor.Rd

def cutT (s p : List UInt8) : List UInt8 := if Lib.hasPrefix s p then s.drop p.length else s
theorem hasPrefix_len {s p : List UInt8} (h : Lib.hasPrefix s p = true) : p.length ≤ s.length := (List.isPrefixOf_iff_prefix.1 h).length_le

set_option maxRecDepth 100000 in
theorem lite_cut (s p : List UInt8) (w : World) (hs : s.length ≤ 140737488355328) :
    Calls Tryz.prog 122 #[.string ⟨s.toArray⟩, .string ⟨p.toArray⟩] w fun e w' => e = .returned (.tuple #[.string ⟨(cutT s p).toArray⟩, .bool (Lib.hasPrefix s p)]) ∧ w' = w := by
  have HP := Lib.hid (Tryz.stringslite_HasPrefix ⟨s.toArray⟩ ⟨p.toArray⟩ w)
  simp only [ba_data] at HP
  have HC : Hid (cutT s p = if Lib.hasPrefix s p then s.drop p.length else s) := Lib.hid rfl
  have hps : (⟨p.toArray⟩ : ByteArray).size = p.length := rfl
  have hss : (⟨s.toArray⟩ : ByteArray).size = s.length := rfl
  cases hb : Lib.hasPrefix s p with
  | false =>
    have hc : Hid (cutT s p = s) := Lib.hid (by rw [HC.out, hb]; rfl)
    rw [hb] at HP
    clear HC hb
    go_enter Tryz.func122, Tryz.ntmps122
    go_wp2_with fail
    refine HP.out.mono ?_
    rintro e w' ⟨rfl, rfl⟩
    go_wp2
    go_ret2
    rw [hc.out]; exact ⟨rfl, rfl⟩
  | true =>
    have hc : Hid (cutT s p = s.drop p.length) := Lib.hid (by rw [HC.out, hb]; rfl)
    have hpl := hasPrefix_len hb
    rw [hb] at HP
    have hex := extract_rest s p.length s.length (Nat.le_refl _)
    clear HC hb
    go_enter Tryz.func122, Tryz.ntmps122
    go_wp2_with fail
    refine HP.out.mono ?_
    rintro e w' ⟨rfl, rfl⟩
    go_wp2
    go_ret2
    rw [hc.out]; exact ⟨rfl, rfl⟩
set_option maxRecDepth 100000 in
theorem cut_any (s p : List UInt8) (w : World) (hs : s.length ≤ 140737488355328) :
    Calls Tryz.prog 60 #[.string ⟨s.toArray⟩, .string ⟨p.toArray⟩] w fun e w' => e = .returned (.tuple #[.string ⟨(cutT s p).toArray⟩, .bool (Lib.hasPrefix s p)]) ∧ w' = w := by
  have LC := Lib.hid (lite_cut s p w hs)
  generalize cutT s p = t at *
  generalize Lib.hasPrefix s p = b at *
  go_enter Tryz.func60, Tryz.ntmps60
  go_wp2_with fail
  refine LC.out.mono ?_
  rintro e w' ⟨rfl, rfl⟩
  go_wp2
  go_ret2
  exact ⟨rfl, rfl⟩

/-- Whether all went well so far. -/
def OkAt (W : World) (A : Nat) (ok : Bool) : Prop := W.heap[A]? = some (.cells #[.bool ok] 4)
theorem OkAt.set {W : World} {A : Nat} {ok : Bool} (h : OkAt W A ok) (b : Bool) : OkAt (W.setCell ⟨A, 0, none⟩ (.bool b)) A b := by
  rw [OkAt, setCell_heap _ _ _ _ _ _ h]; rfl
theorem OkAt.below {W W' : World} {A : Nat} {ok : Bool} (h : OkAt W A ok) (hb : Below W.heap.size W W') : OkAt W' A ok := (hb.block _ (lt_of_heap h)).trans h
def KeepPost (W : World) (A : Nat) (b : Bool) (e : Ending) (W' : World) : Prop := e = .returned (.tuple #[]) ∧ OkAt W' A b ∧ Turn [A] W W'

set_option maxRecDepth 100000 in
theorem keepc_any (W : World) (A : Nat) (ok : Bool) (c : Int) (h : OkAt W A ok) :
    Calls Tryz.prog 62 #[.int .i64 c, ptr A] W (KeepPost W A (ok && decide (c = 0))) := by
  have c0 : W.cell? ⟨A, 0, none⟩ = some (.bool ok) := cell_of_heap h
  have f0 : W.frozen? ⟨A, 0, none⟩ = false := frozen_of_heap h
  have H := Lib.hid h
  clear h
  unfold ptr
  cases ok with
  | false =>
    go_enter Tryz.func62, Tryz.ntmps62
    go_wp2
    go_end0
    exact ⟨rfl, H.out.set _, (Turn.refl _ _).setCell (.inl (by simp)) _⟩
  | true =>
    by_cases hc : c = 0
    · subst hc
      go_enter Tryz.func62, Tryz.ntmps62
      go_wp2
      go_end0
      exact ⟨rfl, H.out.set _, (Turn.refl _ _).setCell (.inl (by simp)) _⟩
    · have hcb : (c == 0) = false := by rw [beq_eq_false_iff_ne]; exact hc
      have hd : Hid (decide (c = 0) = false) := Lib.hid (by simpa using hc)
      clear hc
      go_enter Tryz.func62, Tryz.ntmps62
      go_wp2
      go_end0
      rw [hd.out]
      exact ⟨rfl, H.out.set _, (Turn.refl _ _).setCell (.inl (by simp)) _⟩
end Go.Proofs.YthcjjekkjbidlaaGreatDoor.St
/-
  Decode's closures: a number, some bytes.
-/
namespace Go.Proofs.YthcjjekkjbidlaaGreatDoor.St
open Go.RowKit Go.Maps Go.WideMaps Go.Proofs.YthcjjekkjbidlaaGreatDoor.Rf Go.Proofs.YthcjjekkjbidlaaGreatDoor.Rd

/-- Decode's variables: ok, the reader, the closure keep. -/
structure DSt (A q r : Nat) (W : World) (R : List UInt8) (ok : Bool) : Prop where
  ov : OkAt W A ok
  rd : ReaderAt W q R
  rv : W.heap[r]? = some (.cells #[ptr q] 133)
  kv : W.heap[r + 1]? = some (.cells #[.func (.func 62) #[] #[ptr A]] 135)
  Aq : A < q
  qr : q < r
theorem DSt.turn {A q r : Nat} {W W' : World} {R R' : List UInt8} {ok ok' : Bool} {X : List Nat} (h : DSt A q r W R ok) (hT : Turn X W W') (hX : ∀ x ∈ X, x < r ∨ r + 1 < x) (ho : OkAt W' A ok') (hr : ReaderAt W' q R') : DSt A q r W' R' ok' :=
  ⟨ho, hr, (hT.block _ (lt_of_heap h.rv) (fun hx => by have := hX _ hx; omega)).trans h.rv, (hT.block _ (lt_of_heap h.kv) (fun hx => by have := hX _ hx; omega)).trans h.kv, h.Aq, h.qr⟩
theorem DSt.below {A q r : Nat} {W W' : World} {R : List UInt8} {ok : Bool} (h : DSt A q r W R ok) (hb : Below W.heap.size W W') : DSt A q r W' R ok :=
  h.turn (X := []) (Turn.of_below hb) (fun x hx => by cases hx) (h.ov.below hb) ((hb.block _ (lt_of_heap h.rd)).trans h.rd)

def NumPost (A q r : Nat) (W : World) (R : List UInt8) (ok : Bool) (most : Nat) (e : Ending) (W' : World) : Prop :=
  e = .returned (.int .u64 (shN R : Int)) ∧ DSt A q r W' (shR R) (ok && numB most R) ∧ Turn [A, q] W W'
theorem shE_dec (R : List UInt8) : decide (shE R = 0) = (rd0 R).isSome := by
  unfold shE; cases (rd0 R).isSome <;> simp

set_option maxHeartbeats 4000000 in
set_option maxRecDepth 100000 in
theorem number_any (A q r : Nat) (W : World) (R : List UInt8) (ok : Bool) (most : Nat) (hR : R.length ≤ 140737488355328) (h : DSt A q r W R ok) :
    Calls Tryz.prog 63 #[.int .u64 (most : Int), ptr r, ptr (r + 1), ptr A] W (NumPost A q r W R ok most) := by
  have c1 : W.cell? ⟨r, 0, none⟩ = some (ptr q) := cell_of_heap h.rv
  have U := Lib.hid (uint_any W q R hR h.rd)
  have H := Lib.hid h
  have HD := Lib.hid (shE_dec R)
  have HN : Hid (numB most R = ((rd0 R).isSome && decide (shN R ≤ most))) := Lib.hid rfl
  obtain ⟨n, hn⟩ : ∃ n, n = shN R := ⟨_, rfl⟩
  rw [← hn] at U HN
  have HNN := Lib.hid hn
  clear hn
  generalize hce : shE R = ce at *
  clear hce h
  unfold ptr at *
  go_enter Tryz.func63, Tryz.ntmps63
  go_wp2_with fail
  refine U.out.mono ?_
  rintro e w1 ⟨rfl, hr1, t1⟩
  have ho1 : OkAt w1 A ok := (t1.block _ (lt_of_heap H.out.ov) (by simp; have := H.out.Aq; omega)).trans H.out.ov
  have h1 := H.out.turn t1 (by intro x hx; simp at hx; have := H.out.qr; omega) ho1 hr1
  have c2 : w1.cell? ⟨r + 1, 0, none⟩ = some (.func (.func 62) #[] #[.pointer (some ⟨A, 0, none⟩)]) := cell_of_heap h1.kv
  have KC := Lib.hid (keepc_any w1 A ok ce ho1)
  have H1 := Lib.hid h1; have T1 := Lib.hid t1
  rw [HD.out] at KC
  unfold ptr at KC
  clear c1 hr1 t1 ho1 h1 U
  go_wp2_with fail
  refine KC.out.mono ?_
  rintro e w2 ⟨rfl, ho2, t2⟩
  have hAq := H1.out.Aq
  have hr2 : ReaderAt w2 q (shR R) := (t2.block _ (lt_of_heap H1.out.rd) (by simp; omega)).trans H1.out.rd
  have h2 := H1.out.turn t2 (by intro x hx; simp at hx; have := H1.out.qr; omega) ho2 hr2
  have hT2 : Turn [A, q] W w2 := ((T1.out.mono (Y := [A, q]) (by simp)).trans (t2.mono (Y := [A, q]) (by simp)) (fun y hy => .inl hy))
  have c3 : w2.cell? ⟨A, 0, none⟩ = some (.bool (ok && (rd0 R).isSome)) := cell_of_heap ho2
  have f3 : w2.frozen? ⟨A, 0, none⟩ = false := frozen_of_heap ho2
  have H2 := Lib.hid h2; have HT2 := Lib.hid hT2
  clear KC c2 ho2 t2 hr2 h2 hT2 hAq
  by_cases hgt : (most : Int) < (n : Int)
  · have HF : Hid ((ok && numB most R) = false) := Lib.hid (by rw [HN.out, decide_eq_false (by omega)]; simp)
    go_wp2
    go_ret
    refine ⟨by rw [← HNN.out]; rfl, ?_, HT2.out.setCell (.inl (by simp)) _⟩
    rw [HF.out]
    exact H2.out.turn ((Turn.refl [A] w2).setCell (.inl (by simp)) _) (by intro x hx; simp at hx; have := H2.out.Aq; have := H2.out.qr; omega) (H2.out.ov.set false) ((Below.heap_setCell _ _ _ _ (by have := H2.out.Aq; show q ≠ A; omega)).trans H2.out.rd)
  · have HF : Hid ((ok && numB most R) = (ok && (rd0 R).isSome)) := Lib.hid (by rw [HN.out, decide_eq_true (by omega), Bool.and_true])
    go_wp2
    go_ret
    refine ⟨by rw [← HNN.out]; rfl, ?_, HT2.out⟩
    rw [HF.out]; exact H2.out

/-! ### bytes, filled up -/
theorem zero_cells (k : Nat) : (Builtin.zeroCells (Value.int .u8 0).cells k).toList = Lib.byteCells (List.replicate k 0) := by
  have hc : (Value.int IntKind.u8 0).cells = #[Value.int IntKind.u8 0] := rfl
  simp only [Builtin.zeroCells, hc, Lib.byteCells]
  apply List.ext_getElem
  · simp
  · intro i h1 h2
    simp [Nat.mod_one]
theorem run_append_Z {w : World} {B : Nat} (t u ty : TypeId) (i : TypeInfo) (ht : Tryz.prog.underlying t = some (.slice 5)) (hu : Tryz.prog.underlying u = some (.int .i64)) (hi : Tryz.prog.info? 5 = some i) (hz : i.zero = some (.int .u8 0))
    (hsize : i.size = 1) (hby : i.bytes = 1) (v : Value) (l : List UInt8) (k : Nat) (hown : RowM w B v l) (hk : k ≤ 64) (hl : l.length ≤ 64) (hbase : B ≤ w.heap.size) :
    ∃ v' w', (Builtin.append_ #[t, u] ty #[v, .int .i64 (k : Int)]).run Tryz.prog w = .ok v' w' ∧ RowM w' B v' (l ++ List.replicate k 0) ∧ w.grownBy w' v.ownBlock := by
  obtain ⟨g, cap, cur, fz, rfl, hB, hg, hfz, hnc, hcm, hcs, htk⟩ := hown
  have hbl : (Lib.byteCells l).length = l.length := Lib.byteCells_length l
  have hzl : (Lib.byteCells (List.replicate k 0)).length = k := by rw [Lib.byteCells_length, List.length_replicate]
  have hcat : Lib.byteCells (l ++ List.replicate k 0) = Lib.byteCells l ++ Lib.byteCells (List.replicate k 0) := by simp [Lib.byteCells]
  have hw : IntKind.i64.wrap (k : Int) = (k : Int) := by rw [IntKind.wrap_i64]; omega
  have n1 : ¬ (k : Int) < 0 := by omega
  have n2 : ¬ (281474976710656 < (k : Int)) := by omega
  by_cases hroom : l.length + k ≤ cap
  · have hst := run_storeCells_atM Tryz.prog g l.length 5 fz (Lib.byteCells (List.replicate k 0)) 0 cur w hg (by rw [hzl]; omega) (by rw [hzl]; omega) (Lib.strCells_oneCell ⟨(List.replicate k (0 : UInt8)).toArray⟩)
    simp only [Nat.add_zero, hzl] at hst
    have hr : (Builtin.append_ #[t, u] ty #[.slice (some ⟨g, 0, none⟩) l.length cap, .int .i64 (k : Int)]).run Tryz.prog w =
        .ok (.slice (some ⟨g, 0, none⟩) (l.length + k) cap) (w.setRow g (cur.toList.take l.length ++ Lib.byteCells (List.replicate k 0) ++ cur.toList.drop (l.length + k)).toArray) := by
      by_cases h0 : k = 0
      · subst h0
        have e0 : (Lib.byteCells (List.replicate 0 0)) = [] := rfl
        rw [e0] at hst ⊢
        have hw0 : IntKind.i64.wrap 0 = 0 := by decide
        simp [Builtin.append_, run_underlying ht, run_underlying hu, sizeOf, typeInfo, hi, hsize, hby, asInt, asIntOf, hw0, hnc, Addr.add_lit, hst]
      · simp [Builtin.append_, run_underlying ht, run_underlying hu, sizeOf, typeInfo, hi, hsize, hby, asInt, asIntOf, hw, n1, n2, hroom, h0, zeroValue, hz, zero_cells, Addr.add_lit, hst]
    refine ⟨_, _, hr, ⟨g, cap, _, fz, by rw [List.length_append, List.length_replicate], hB, Go.setRow_heap w g cur _ 5 _ hg, by rw [List.length_append]; omega, by rw [List.length_append, List.length_replicate]; exact hroom, hcm, ?_, ?_⟩, ⟨rfl, rfl, rfl, by simp [World.setRow], fun k _ hk => setRow_other w g k _ (fun e => hk (by simp [Value.ownBlock, e]))⟩⟩
    · simp only [List.size_toArray, List.length_append, List.length_take, List.length_drop, Array.length_toList, hzl]
      omega
    · rw [htk, hcat]
      refine List.take_left' ?_
      rw [List.length_append, hbl, hzl, List.length_append, List.length_replicate]
  · have holds : ∀ j u, (Lib.byteCells l)[j]? = some u → w.cell? ((⟨g, 0, none⟩ : Addr).add j) = some u := fun j u hu => by
      have hr0 : RowM w B (.slice (some ⟨g, 0, none⟩) l.length cap) l := ⟨g, cap, cur, fz, rfl, hB, hg, hfz, hnc, hcm, hcs, htk⟩
      have := hr0.range j u hu
      rw [Addr.add_lit]; simpa using this
    have h63 : l.length + k ≤ maxLen := by unfold maxLen; omega
    have h0 : ¬ k = 0 := by omega
    have h63' : ¬ (9223372036854775807 < ((l.length : Int) + (k : Int))) := by omega
    have hfit : Builtin.nextslicecap (l.length + k) cap * i.bytes ≤ 281474976710656 := by rw [hby]; exact growslice_fits (by omega) (by omega)
    have h48' : ¬ (281474976710656 < Builtin.nextslicecap (l.length + k) cap * i.bytes) := by omega
    rw [hby, Nat.mul_one] at h48'
    have hfo := run_firstCells_some (P := Tryz.prog) w.drew 1 l.length ⟨g, 0, none⟩ l.length cap (Lib.byteCells l) (by rw [hbl]; omega) (by simpa using holds)
    have hr : (Builtin.append_ #[t, u] ty #[.slice (some ⟨g, 0, none⟩) l.length cap, .int .i64 (k : Int)]).run Tryz.prog w =
        .ok (.slice (some ⟨w.heap.size, 0, none⟩) (l.length + k) (grownCap w (l.length + k) cap 5))
          (w.drew.alloc (.cells ((Lib.byteCells l).toArray ++ Builtin.zeroCells (Value.int .u8 0).cells k ++ Builtin.zeroCells (Value.int .u8 0).cells (grownCap w (l.length + k) cap 5 - (l.length + k))) 5)) := by
      simp [Builtin.append_, run_underlying ht, run_underlying hu, sizeOf, typeInfo, zeroValue, hi, hz, hsize, hby, asInt, asIntOf, hw, n1, n2, hroom, h0, h63', h48', Question.forced, hfo, newRow, grownCap]
    have hge := grownCap_ge w (l.length + k) cap 5
    have hcm2 : grownCap w (l.length + k) cap 5 ≤ maxLen := grownCap_le_maxLen w (l.length + k) cap 5 h63
    refine ⟨_, _, hr, ⟨w.heap.size, _, _, (0, 0), by rw [List.length_append, List.length_replicate], hbase, (MapKept.heap_alloc w.drew _).1, .inl (Nat.zero_le _), by rw [List.length_append, List.length_replicate]; exact hge, hcm2, ?_, ?_⟩, ⟨rfl, rfl, rfl, by simp, fun k hk _ => Below.heap_alloc w.drew _ _ hk⟩⟩
    · have hz1 : (Value.int IntKind.u8 0).cells.size = 1 := rfl
      simp only [Array.size_append, List.size_toArray, size_zeroCells, hz1, hbl]
      omega
    · simp only [Array.toList_append, zero_cells]
      rw [hcat]
      refine List.take_left' ?_
      rw [List.length_append, hbl, hzl, List.length_append, List.length_replicate]
theorem wpList_append_Z {w : World} {B : Nat} {ops : Array Oper} {rest : List Oper} {o : Oper} {a : Act} {Q : Exit → Act → World → Prop} (hgd : o.guard = none) (sl x : Operand) (t u : TypeId)
    (ho : o.op = .call { callee := .builtin .append, args := #[sl, x], argTypes := #[t, u] }) (i : TypeInfo)
    (ht : Tryz.prog.underlying t = some (.slice 5)) (hu : Tryz.prog.underlying u = some (.int .i64)) (hi : Tryz.prog.info? 5 = some i) (hz : i.zero = some (.int .u8 0)) (hsize : i.size = 1) (hby : i.bytes = 1)
    (v : Value) (l : List UInt8) (k : Nat) (n : Int) (hn : n = (k : Int)) (hs : a.eval sl = v) (hown : RowM w B v l) (hx : a.eval x = .int .i64 n) (hk : k ≤ 64) (hl : l.length ≤ 64) (hbase : B ≤ w.heap.size)
    (h : ∀ v' w', RowM w' B v' (l ++ List.replicate k 0) → w.grownBy w' v.ownBlock → wpList Tryz.prog ops Q rest (a.put o.dst v') w') : wpList Tryz.prog ops Q (o :: rest) a w :=
  wpList_plain hgd fun _ hK => by
    subst hn
    obtain ⟨v', w', hr, h2, h3⟩ := run_append_Z (B := B) t u o.type i ht hu hi hz hsize hby v l k hown hk hl hbase
    unfold Oper.wp execOp
    simp only [ho, resolve, invoke, builtin, Sem.run_bind, Sem.run_pure, Result.andThen_ok, List.map_toArray, List.map_cons, List.map_nil, hs, hx, hr]
    exact hK _ _ (h v' w' h2 h3)

def TakePost (A q r : Nat) (W : World) (R : List UInt8) (ok : Bool) (n : Nat) (e : Ending) (W' : World) : Prop :=
  ∃ v, e = .returned v ∧ RowM W' W.heap.size v (tkF n R) ∧ DSt A q r W' (tkR n R) (ok && tkB n R) ∧ Turn [A, q] W W'
theorem tkE_dec (n : Nat) (R : List UInt8) : decide (tkE n R = 0) = tkB n R := by
  unfold tkE tkB; by_cases h : n ≤ R.length <;> simp [h]

set_option maxHeartbeats 4000000 in
set_option maxRecDepth 100000 in
theorem takec_any (A q r : Nat) (W : World) (R : List UInt8) (ok : Bool) (n : Nat) (hn : n ≤ 64) (h : DSt A q r W R ok) :
    Calls Tryz.prog 65 #[.int .i64 (n : Int), ptr r, ptr (r + 1)] W (TakePost A q r W R ok n) := by
  have c1 : W.cell? ⟨r, 0, none⟩ = some (ptr q) := cell_of_heap h.rv
  have U := Lib.hid (take_any W q R n (by omega) h.rd)
  have H := Lib.hid h
  have HD := Lib.hid (tkE_dec n R)
  have HF : Hid (tkF n R = tkT n R ++ List.replicate (n - (tkT n R).length) 0) := Lib.hid rfl
  have htl := tkT_len n R
  obtain ⟨ib, hib, hbzz⟩ := Option.map_eq_some_iff.1 infoByte
  obtain ⟨hbz, hb1, hb2⟩ : ib.zero = some (.int .u8 0) ∧ ib.size = 1 ∧ ib.bytes = 1 := by injection hbzz with a b; injection b with b c; exact ⟨a, b, c⟩
  clear hbzz
  generalize tkT n R = T at *
  generalize hce : tkE n R = ce at *
  clear hce h
  unfold ptr at *
  go_enter Tryz.func65, Tryz.ntmps65
  go_wp2_with fail
  refine U.out.mono ?_
  rintro e w1 ⟨rfl, hr1, t1⟩
  have ho1 : OkAt w1 A ok := (t1.block _ (lt_of_heap H.out.ov) (by simp; have := H.out.Aq; omega)).trans H.out.ov
  have h1 := H.out.turn t1 (by intro x hx; simp at hx; have := H.out.qr; omega) ho1 hr1
  have c2 : w1.cell? ⟨r + 1, 0, none⟩ = some (.func (.func 62) #[] #[.pointer (some ⟨A, 0, none⟩)]) := cell_of_heap h1.kv
  have KC := Lib.hid (keepc_any w1 A ok ce ho1)
  have H1 := Lib.hid h1; have T1 := Lib.hid t1
  rw [HD.out] at KC
  unfold ptr at KC
  clear c1 hr1 t1 ho1 h1 U
  go_wp2_with fail
  refine KC.out.mono ?_
  rintro e w2 ⟨rfl, ho2, t2⟩
  have hAq := H1.out.Aq
  have hr2 : ReaderAt w2 q (tkR n R) := (t2.block _ (lt_of_heap H1.out.rd) (by simp; omega)).trans H1.out.rd
  have h2 := H1.out.turn t2 (by intro x hx; simp at hx; have := H1.out.qr; omega) ho2 hr2
  have hT2 : Turn [A, q] W w2 := ((T1.out.mono (Y := [A, q]) (by simp)).trans (t2.mono (Y := [A, q]) (by simp)) (fun y hy => .inl hy))
  have hsT : (⟨T.toArray⟩ : ByteArray).size = T.length := rfl
  obtain ⟨W3, hW3⟩ : ∃ W3, W3 = Lib.bytesWorld w2 5 ⟨T.toArray⟩ := ⟨_, rfl⟩
  have hcv : (convert 9 114 (.string ⟨T.toArray⟩)).run Tryz.prog w2 = .ok (.slice (some ⟨w2.heap.size, 0, none⟩) T.length (grownCap w2 T.length 0 5)) W3 := by
    rw [hW3]; exact Lib.run_convert_string_bytes (P := Tryz.prog) w2 9 114 5 ⟨T.toArray⟩ Tryz.underlying9 Tryz.underlying114 Tryz.underlying5
  have hb3 : Below w2.heap.size w2 W3 := by
    rw [hW3]; exact ⟨rfl, rfl, rfl, by rw [Lib.bytesWorld_size]; omega, fun k hk => Lib.bytesWorld_at_old w2 _ _ k hk⟩
  have HRM : Hid (RowM W3 W.heap.size (.slice (some ⟨w2.heap.size, 0, none⟩) T.length (grownCap w2 T.length 0 5)) T) := Lib.hid (by rw [hW3]; exact rowM_conv w2 W.heap.size hT2.size T (by unfold maxLen; omega))
  have H3 := Lib.hid (h2.below hb3)
  have HT3 : Hid (Turn [A, q] W W3) := Lib.hid (hT2.trans (Turn.of_below (X := [A, q]) hb3) (fun y hy => .inl hy))
  have HRK : Hid (r + 1 < w2.heap.size ∧ W.heap.size ≤ w2.heap.size) := Lib.hid ⟨lt_of_heap h2.kv, hT2.size⟩
  have hk : (n : Int) - (T.length : Int) = ((n - T.length : Nat) : Int) := by omega
  have HK := Lib.hid hk
  clear KC c2 ho2 t2 hr2 h2 hT2 hAq hW3 hb3 hk
  go_wp2_with (first
    | (refine wpList_append_Z rfl _ _ 114 3 rfl ib Tryz.underlying114 Tryz.underlying3 hib hbz hb1 hb2 (.slice (some ⟨w2.heap.size, 0, none⟩) T.length (grownCap w2 T.length 0 5)) T (n - T.length) _ HK.out rfl HRM.out rfl (by omega) (by omega) HT3.out.size ?_
       intro v4 w4 ho4 hg4
       have HO4 := Lib.hid ho4; have HG4 := Lib.hid hg4
       clear ho4 hg4))
  go_ret
  have hge := HRM.out.lt
  have hT4 : Turn [w2.heap.size] W3 w4 := ⟨HG4.out.os, HG4.out.tape, HG4.out.output, HG4.out.size, fun k hk hx => HG4.out.block k hk (by simpa [Value.ownBlock] using hx)⟩
  have hwr : ∀ x, x < w2.heap.size → w4.heap[x]? = W3.heap[x]? := fun x hx => by
    have := (hge w2.heap.size (by simp [ob, Value.ownBlock])).2
    exact hT4.block x (by omega) (by simp; omega)
  have hrk := HRK.out
  have h3 := H3.out
  have hAq := h3.Aq; have hqr := h3.qr
  refine ⟨v4, rfl, by rw [HF.out]; exact HO4.out, h3.turn hT4 (by intro x hx; simp at hx; omega) ((hwr A (by omega)).trans h3.ov) ((hwr q (by omega)).trans h3.rd), HT3.out.trans hT4 (fun y hy => .inr (by simp at hy; omega))⟩
end Go.Proofs.YthcjjekkjbidlaaGreatDoor.St
