import Derived.Test.YtpbhkaokgpacoaaGreatDoorZStDecPlain
import Derived.Test.YtpbhkaokgpacoaaGreatDoorZStRefPut
import Derived.Test.YtpbhkaokgpacoaaGreatDoorZStAppend
set_option linter.unusedSimpArgs false
set_option linter.unusedVariables false
/-
  Decode's parts: the front cut off, what can't be read gives up, a number, some bytes.
-/
namespace Go.Proofs.YtpbhkaokgpacoaaGreatDoor.St
open Go.RowKit Go.Maps Go.WideMaps Go.Proofs.YtpbhkaokgpacoaaGreatDoor.Rf Go.Proofs.YtpbhkaokgpacoaaGreatDoor.Rd

def cutT (s p : List UInt8) : List UInt8 := if Lib.hasPrefix s p then s.drop p.length else s
theorem hasPrefix_len {s p : List UInt8} (h : Lib.hasPrefix s p = true) : p.length ≤ s.length := (List.isPrefixOf_iff_prefix.1 h).length_le

set_option maxRecDepth 100000 in
theorem lite_cut (s p : List UInt8) (w : World) (hs : s.length ≤ 140737488355328) :
    Calls Tryz.prog 79 #[.string ⟨s.toArray⟩, .string ⟨p.toArray⟩] w fun e w' => e = .returned (.tuple #[.string ⟨(cutT s p).toArray⟩, .bool (Lib.hasPrefix s p)]) ∧ w' = w := by
  have HP := Lib.hid (Tryz.stringslite_HasPrefix ⟨s.toArray⟩ ⟨p.toArray⟩ w)
  simp only [ba_data] at HP
  have HC : Hid (cutT s p = if Lib.hasPrefix s p then s.drop p.length else s) := Lib.hid rfl
  have hps : (⟨p.toArray⟩ : ByteArray).size = p.length := rfl
  have hss : (⟨s.toArray⟩ : ByteArray).size = s.length := rfl
  cases hb : Lib.hasPrefix s p with
  | false =>
    have hc : Hid (cutT s p = s) := Lib.hid (by rw [HC.out, hb]; rfl)
    rw [hb] at HP
    clear HC hb
    go_enter Tryz.func79, Tryz.ntmps79
    go_wp2_with fail
    refine HP.out.mono ?_
    rintro e w' ⟨rfl, rfl⟩
    go_wp2
    go_ret2
    rw [hc.out]; exact ⟨rfl, rfl⟩
  | true =>
    have hc : Hid (cutT s p = s.drop p.length) := Lib.hid (by rw [HC.out, hb]; rfl)
    have hpl := hasPrefix_len hb
    rw [hb] at HP
    have hex := extract_rest s p.length s.length (Nat.le_refl _)
    clear HC hb
    go_enter Tryz.func79, Tryz.ntmps79
    go_wp2_with fail
    refine HP.out.mono ?_
    rintro e w' ⟨rfl, rfl⟩
    go_wp2
    go_ret2
    rw [hc.out]; exact ⟨rfl, rfl⟩
set_option maxRecDepth 100000 in
theorem cut_any (s p : List UInt8) (w : World) (hs : s.length ≤ 140737488355328) :
    Calls Tryz.prog 46 #[.string ⟨s.toArray⟩, .string ⟨p.toArray⟩] w fun e w' => e = .returned (.tuple #[.string ⟨(cutT s p).toArray⟩, .bool (Lib.hasPrefix s p)]) ∧ w' = w := by
  have LC := Lib.hid (lite_cut s p w hs)
  generalize cutT s p = t at *
  generalize Lib.hasPrefix s p = b at *
  go_enter Tryz.func46, Tryz.ntmps46
  go_wp2_with fail
  refine LC.out.mono ?_
  rintro e w' ⟨rfl, rfl⟩
  go_wp2
  go_ret2
  exact ⟨rfl, rfl⟩

/-- Whether all went well so far. -/
def OkAt (W : World) (A : Nat) (ok : Bool) : Prop := W.heap[A]? = some (.cells #[.bool ok] 4)
theorem OkAt.set {W : World} {A : Nat} {ok : Bool} (h : OkAt W A ok) (b : Bool) : OkAt (W.setCell ⟨A, 0, none⟩ (.bool b)) A b := by
  rw [OkAt, setCell_heap _ _ _ _ _ _ h]; rfl
theorem OkAt.below {W W' : World} {A : Nat} {ok : Bool} (h : OkAt W A ok) (hb : Below W.heap.size W W') : OkAt W' A ok := (hb.block _ (lt_of_heap h)).trans h
def KeepPost (W : World) (A : Nat) (b : Bool) (e : Ending) (W' : World) : Prop := e = .returned (.tuple #[]) ∧ OkAt W' A b ∧ Turn [A] W W'

set_option maxRecDepth 100000 in
theorem keepc_any (W : World) (A : Nat) (ok : Bool) (c : Int) (h : OkAt W A ok) :
    Calls Tryz.prog 48 #[.int .i64 c, ptr A] W (KeepPost W A (ok && decide (c = 0))) := by
  have c0 : W.cell? ⟨A, 0, none⟩ = some (.bool ok) := cell_of_heap h
  have f0 : W.frozen? ⟨A, 0, none⟩ = false := frozen_of_heap h
  have H := Lib.hid h
  clear h
  unfold ptr
  cases ok with
  | false =>
    go_enter Tryz.func48, Tryz.ntmps48
    go_wp2
    go_end0
    exact ⟨rfl, H.out.set _, (Turn.refl _ _).setCell (.inl (by simp)) _⟩
  | true =>
    by_cases hc : c = 0
    · subst hc
      go_enter Tryz.func48, Tryz.ntmps48
      go_wp2
      go_end0
      exact ⟨rfl, H.out.set _, (Turn.refl _ _).setCell (.inl (by simp)) _⟩
    · have hcb : (c == 0) = false := by rw [beq_eq_false_iff_ne]; exact hc
      have hd : Hid (decide (c = 0) = false) := Lib.hid (by simpa using hc)
      clear hc
      go_enter Tryz.func48, Tryz.ntmps48
      go_wp2
      go_end0
      rw [hd.out]
      exact ⟨rfl, H.out.set _, (Turn.refl _ _).setCell (.inl (by simp)) _⟩
end Go.Proofs.YtpbhkaokgpacoaaGreatDoor.St
/-
  Decode's closures: a number, some bytes.
-/
namespace Go.Proofs.YtpbhkaokgpacoaaGreatDoor.St
open Go.RowKit Go.Maps Go.WideMaps Go.Proofs.YtpbhkaokgpacoaaGreatDoor.Rf Go.Proofs.YtpbhkaokgpacoaaGreatDoor.Rd

/-- Decode's variables: ok, the reader, the closure keep. -/
structure DSt (A q r : Nat) (W : World) (R : List UInt8) (ok : Bool) : Prop where
  ov : OkAt W A ok
  rd : ReaderAt W q R
  rv : W.heap[r]? = some (.cells #[ptr q] 107)
  kv : W.heap[r + 1]? = some (.cells #[.func (.func 48) #[] #[ptr A]] 109)
  Aq : A < q
  qr : q < r
theorem DSt.turn {A q r : Nat} {W W' : World} {R R' : List UInt8} {ok ok' : Bool} {X : List Nat} (h : DSt A q r W R ok) (hT : Turn X W W') (hX : ∀ x ∈ X, x < r ∨ r + 1 < x) (ho : OkAt W' A ok') (hr : ReaderAt W' q R') : DSt A q r W' R' ok' :=
  ⟨ho, hr, (hT.block _ (lt_of_heap h.rv) (fun hx => by have := hX _ hx; omega)).trans h.rv, (hT.block _ (lt_of_heap h.kv) (fun hx => by have := hX _ hx; omega)).trans h.kv, h.Aq, h.qr⟩
theorem DSt.below {A q r : Nat} {W W' : World} {R : List UInt8} {ok : Bool} (h : DSt A q r W R ok) (hb : Below W.heap.size W W') : DSt A q r W' R ok :=
  h.turn (X := []) (Turn.of_below hb) (fun x hx => by cases hx) (h.ov.below hb) ((hb.block _ (lt_of_heap h.rd)).trans h.rd)

def NumPost (A q r : Nat) (W : World) (R : List UInt8) (ok : Bool) (most : Nat) (e : Ending) (W' : World) : Prop :=
  e = .returned (.int .u64 (shN R : Int)) ∧ DSt A q r W' (shR R) (ok && numB most R) ∧ Turn [A, q] W W'
theorem shE_dec (R : List UInt8) : decide (shE R = 0) = (rd0 R).isSome := by
  unfold shE; cases (rd0 R).isSome <;> simp

set_option maxHeartbeats 4000000 in
set_option maxRecDepth 100000 in
theorem number_any (A q r : Nat) (W : World) (R : List UInt8) (ok : Bool) (most : Nat) (hR : R.length ≤ 140737488355328) (h : DSt A q r W R ok) :
    Calls Tryz.prog 49 #[.int .u64 (most : Int), ptr r, ptr (r + 1), ptr A] W (NumPost A q r W R ok most) := by
  have c1 : W.cell? ⟨r, 0, none⟩ = some (ptr q) := cell_of_heap h.rv
  have U := Lib.hid (uint_any W q R hR h.rd)
  have H := Lib.hid h
  have HD := Lib.hid (shE_dec R)
  have HN : Hid (numB most R = ((rd0 R).isSome && decide (shN R ≤ most))) := Lib.hid rfl
  obtain ⟨n, hn⟩ : ∃ n, n = shN R := ⟨_, rfl⟩
  rw [← hn] at U HN
  have HNN := Lib.hid hn
  clear hn
  generalize hce : shE R = ce at *
  clear hce h
  unfold ptr at *
  go_enter Tryz.func49, Tryz.ntmps49
  go_wp2_with fail
  refine U.out.mono ?_
  rintro e w1 ⟨rfl, hr1, t1⟩
  have ho1 : OkAt w1 A ok := (t1.block _ (lt_of_heap H.out.ov) (by simp; have := H.out.Aq; omega)).trans H.out.ov
  have h1 := H.out.turn t1 (by intro x hx; simp at hx; have := H.out.qr; omega) ho1 hr1
  have c2 : w1.cell? ⟨r + 1, 0, none⟩ = some (.func (.func 48) #[] #[.pointer (some ⟨A, 0, none⟩)]) := cell_of_heap h1.kv
  have KC := Lib.hid (keepc_any w1 A ok ce ho1)
  have H1 := Lib.hid h1; have T1 := Lib.hid t1
  rw [HD.out] at KC
  unfold ptr at KC
  clear c1 hr1 t1 ho1 h1 U
  go_wp2_with fail
  refine KC.out.mono ?_
  rintro e w2 ⟨rfl, ho2, t2⟩
  have hAq := H1.out.Aq
  have hr2 : ReaderAt w2 q (shR R) := (t2.block _ (lt_of_heap H1.out.rd) (by simp; omega)).trans H1.out.rd
  have h2 := H1.out.turn t2 (by intro x hx; simp at hx; have := H1.out.qr; omega) ho2 hr2
  have hT2 : Turn [A, q] W w2 := ((T1.out.mono (Y := [A, q]) (by simp)).trans (t2.mono (Y := [A, q]) (by simp)) (fun y hy => .inl hy))
  have c3 : w2.cell? ⟨A, 0, none⟩ = some (.bool (ok && (rd0 R).isSome)) := cell_of_heap ho2
  have f3 : w2.frozen? ⟨A, 0, none⟩ = false := frozen_of_heap ho2
  have H2 := Lib.hid h2; have HT2 := Lib.hid hT2
  clear KC c2 ho2 t2 hr2 h2 hT2 hAq
  by_cases hgt : (most : Int) < (n : Int)
  · have HF : Hid ((ok && numB most R) = false) := Lib.hid (by rw [HN.out, decide_eq_false (by omega)]; simp)
    go_wp2
    go_ret
    refine ⟨by rw [← HNN.out]; rfl, ?_, HT2.out.setCell (.inl (by simp)) _⟩
    rw [HF.out]
    exact H2.out.turn ((Turn.refl [A] w2).setCell (.inl (by simp)) _) (by intro x hx; simp at hx; have := H2.out.Aq; have := H2.out.qr; omega) (H2.out.ov.set false) ((Below.heap_setCell _ _ _ _ (by have := H2.out.Aq; show q ≠ A; omega)).trans H2.out.rd)
  · have HF : Hid ((ok && numB most R) = (ok && (rd0 R).isSome)) := Lib.hid (by rw [HN.out, decide_eq_true (by omega), Bool.and_true])
    go_wp2
    go_ret
    refine ⟨by rw [← HNN.out]; rfl, ?_, HT2.out⟩
    rw [HF.out]; exact H2.out

/-! ### bytes, filled up -/
theorem zero_cells (k : Nat) : (Builtin.zeroCells (Value.int .u8 0).cells k).toList = Lib.byteCells (List.replicate k 0) := by
  have hc : (Value.int IntKind.u8 0).cells = #[Value.int IntKind.u8 0] := rfl
  simp only [Builtin.zeroCells, hc, Lib.byteCells]
  apply List.ext_getElem
  · simp
  · intro i h1 h2
    simp [Nat.mod_one]
theorem run_append_Z {w : World} {B : Nat} (t u ty : TypeId) (i : TypeInfo) (ht : Tryz.prog.underlying t = some (.slice 5)) (hu : Tryz.prog.underlying u = some (.int .i64)) (hi : Tryz.prog.info? 5 = some i) (hz : i.zero = some (.int .u8 0))
    (hsize : i.size = 1) (hby : i.bytes = 1) (v : Value) (l : List UInt8) (k : Nat) (hown : RowM w B v l) (hk : k ≤ 64) (hl : l.length ≤ 64) (hbase : B ≤ w.heap.size) :
    ∃ v' w', (Builtin.append_ #[t, u] ty #[v, .int .i64 (k : Int)]).run Tryz.prog w = .ok v' w' ∧ RowM w' B v' (l ++ List.replicate k 0) ∧ w.grownBy w' v.ownBlock := by
  obtain ⟨g, cap, cur, fz, rfl, hB, hg, hfz, hnc, hcm, hcs, htk⟩ := hown
  have hbl : (Lib.byteCells l).length = l.length := Lib.byteCells_length l
  have hzl : (Lib.byteCells (List.replicate k 0)).length = k := by rw [Lib.byteCells_length, List.length_replicate]
  have hcat : Lib.byteCells (l ++ List.replicate k 0) = Lib.byteCells l ++ Lib.byteCells (List.replicate k 0) := by simp [Lib.byteCells]
  have hw : IntKind.i64.wrap (k : Int) = (k : Int) := by rw [IntKind.wrap_i64]; omega
  have n1 : ¬ (k : Int) < 0 := by omega
  have n2 : ¬ (281474976710656 < (k : Int)) := by omega
  by_cases hroom : l.length + k ≤ cap
  · have hst := run_storeCells_atM Tryz.prog g l.length 5 fz (Lib.byteCells (List.replicate k 0)) 0 cur w hg (by rw [hzl]; omega) (by rw [hzl]; omega) (Lib.strCells_oneCell ⟨(List.replicate k (0 : UInt8)).toArray⟩)
    simp only [Nat.add_zero, hzl] at hst
    have hr : (Builtin.append_ #[t, u] ty #[.slice (some ⟨g, 0, none⟩) l.length cap, .int .i64 (k : Int)]).run Tryz.prog w =
        .ok (.slice (some ⟨g, 0, none⟩) (l.length + k) cap) (w.setRow g (cur.toList.take l.length ++ Lib.byteCells (List.replicate k 0) ++ cur.toList.drop (l.length + k)).toArray) := by
      by_cases h0 : k = 0
      · subst h0
        have e0 : (Lib.byteCells (List.replicate 0 0)) = [] := rfl
        rw [e0] at hst ⊢
        have hw0 : IntKind.i64.wrap 0 = 0 := by decide
        simp [Builtin.append_, run_underlying ht, run_underlying hu, sizeOf, typeInfo, hi, hsize, hby, asInt, asIntOf, hw0, hnc, Addr.add_lit, hst]
      · simp [Builtin.append_, run_underlying ht, run_underlying hu, sizeOf, typeInfo, hi, hsize, hby, asInt, asIntOf, hw, n1, n2, hroom, h0, zeroValue, hz, zero_cells, Addr.add_lit, hst]
    refine ⟨_, _, hr, ⟨g, cap, _, fz, by rw [List.length_append, List.length_replicate], hB, Go.setRow_heap w g cur _ 5 _ hg, by rw [List.length_append]; omega, by rw [List.length_append, List.length_replicate]; exact hroom, hcm, ?_, ?_⟩, ⟨rfl, rfl, rfl, by simp [World.setRow], fun k _ hk => setRow_other w g k _ (fun e => hk (by simp [Value.ownBlock, e]))⟩⟩
    · simp only [List.size_toArray, List.length_append, List.length_take, List.length_drop, Array.length_toList, hzl]
      omega
    · rw [htk, hcat]
      refine List.take_left' ?_
      rw [List.length_append, hbl, hzl, List.length_append, List.length_replicate]
  · have holds : ∀ j u, (Lib.byteCells l)[j]? = some u → w.cell? ((⟨g, 0, none⟩ : Addr).add j) = some u := fun j u hu => by
      have hr0 : RowM w B (.slice (some ⟨g, 0, none⟩) l.length cap) l := ⟨g, cap, cur, fz, rfl, hB, hg, hfz, hnc, hcm, hcs, htk⟩
      have := hr0.range j u hu
      rw [Addr.add_lit]; simpa using this
    have h63 : l.length + k ≤ maxLen := by unfold maxLen; omega
    have h0 : ¬ k = 0 := by omega
    have h63' : ¬ (9223372036854775807 < ((l.length : Int) + (k : Int))) := by omega
    have hfit : Builtin.nextslicecap (l.length + k) cap * i.bytes ≤ 281474976710656 := by rw [hby]; exact growslice_fits (by omega) (by omega)
    have h48' : ¬ (281474976710656 < Builtin.nextslicecap (l.length + k) cap * i.bytes) := by omega
    rw [hby, Nat.mul_one] at h48'
    have hfo := run_firstCells_some (P := Tryz.prog) w.drew 1 l.length ⟨g, 0, none⟩ l.length cap (Lib.byteCells l) (by rw [hbl]; omega) (by simpa using holds)
    have hr : (Builtin.append_ #[t, u] ty #[.slice (some ⟨g, 0, none⟩) l.length cap, .int .i64 (k : Int)]).run Tryz.prog w =
        .ok (.slice (some ⟨w.heap.size, 0, none⟩) (l.length + k) (grownCap w (l.length + k) cap 5))
          (w.drew.alloc (.cells ((Lib.byteCells l).toArray ++ Builtin.zeroCells (Value.int .u8 0).cells k ++ Builtin.zeroCells (Value.int .u8 0).cells (grownCap w (l.length + k) cap 5 - (l.length + k))) 5)) := by
      simp [Builtin.append_, run_underlying ht, run_underlying hu, sizeOf, typeInfo, zeroValue, hi, hz, hsize, hby, asInt, asIntOf, hw, n1, n2, hroom, h0, h63', h48', Question.forced, hfo, newRow, grownCap]
    have hge := grownCap_ge w (l.length + k) cap 5
    have hcm2 : grownCap w (l.length + k) cap 5 ≤ maxLen := grownCap_le_maxLen w (l.length + k) cap 5 h63
    refine ⟨_, _, hr, ⟨w.heap.size, _, _, (0, 0), by rw [List.length_append, List.length_replicate], hbase, (MapKept.heap_alloc w.drew _).1, .inl (Nat.zero_le _), by rw [List.length_append, List.length_replicate]; exact hge, hcm2, ?_, ?_⟩, ⟨rfl, rfl, rfl, by simp, fun k hk _ => Below.heap_alloc w.drew _ _ hk⟩⟩
    · have hz1 : (Value.int IntKind.u8 0).cells.size = 1 := rfl
      simp only [Array.size_append, List.size_toArray, size_zeroCells, hz1, hbl]
      omega
    · simp only [Array.toList_append, zero_cells]
      rw [hcat]
      refine List.take_left' ?_
      rw [List.length_append, hbl, hzl, List.length_append, List.length_replicate]
theorem wpList_append_Z {w : World} {B : Nat} {ops : Array Oper} {rest : List Oper} {o : Oper} {a : Act} {Q : Exit → Act → World → Prop} (hgd : o.guard = none) (sl x : Operand) (t u : TypeId)
    (ho : o.op = .call { callee := .builtin .append, args := #[sl, x], argTypes := #[t, u] }) (i : TypeInfo)
    (ht : Tryz.prog.underlying t = some (.slice 5)) (hu : Tryz.prog.underlying u = some (.int .i64)) (hi : Tryz.prog.info? 5 = some i) (hz : i.zero = some (.int .u8 0)) (hsize : i.size = 1) (hby : i.bytes = 1)
    (v : Value) (l : List UInt8) (k : Nat) (n : Int) (hn : n = (k : Int)) (hs : a.eval sl = v) (hown : RowM w B v l) (hx : a.eval x = .int .i64 n) (hk : k ≤ 64) (hl : l.length ≤ 64) (hbase : B ≤ w.heap.size)
    (h : ∀ v' w', RowM w' B v' (l ++ List.replicate k 0) → w.grownBy w' v.ownBlock → wpList Tryz.prog ops Q rest (a.put o.dst v') w') : wpList Tryz.prog ops Q (o :: rest) a w :=
  wpList_plain hgd fun _ hK => by
    subst hn
    obtain ⟨v', w', hr, h2, h3⟩ := run_append_Z (B := B) t u o.type i ht hu hi hz hsize hby v l k hown hk hl hbase
    unfold Oper.wp execOp
    simp only [ho, resolve, invoke, builtin, Sem.run_bind, Sem.run_pure, Result.andThen_ok, List.map_toArray, List.map_cons, List.map_nil, hs, hx, hr]
    exact hK _ _ (h v' w' h2 h3)

def TakePost (A q r : Nat) (W : World) (R : List UInt8) (ok : Bool) (n : Nat) (e : Ending) (W' : World) : Prop :=
  ∃ v, e = .returned v ∧ RowM W' W.heap.size v (tkF n R) ∧ DSt A q r W' (tkR n R) (ok && tkB n R) ∧ Turn [A, q] W W'
theorem tkE_dec (n : Nat) (R : List UInt8) : decide (tkE n R = 0) = tkB n R := by
  unfold tkE tkB; by_cases h : n ≤ R.length <;> simp [h]

set_option maxHeartbeats 4000000 in
set_option maxRecDepth 100000 in
theorem takec_any (A q r : Nat) (W : World) (R : List UInt8) (ok : Bool) (n : Nat) (hn : n ≤ 64) (h : DSt A q r W R ok) :
    Calls Tryz.prog 51 #[.int .i64 (n : Int), ptr r, ptr (r + 1)] W (TakePost A q r W R ok n) := by
  have c1 : W.cell? ⟨r, 0, none⟩ = some (ptr q) := cell_of_heap h.rv
  have U := Lib.hid (take_any W q R n (by omega) h.rd)
  have H := Lib.hid h
  have HD := Lib.hid (tkE_dec n R)
  have HF : Hid (tkF n R = tkT n R ++ List.replicate (n - (tkT n R).length) 0) := Lib.hid rfl
  have htl := tkT_len n R
  obtain ⟨ib, hib, hbzz⟩ := Option.map_eq_some_iff.1 infoByte
  obtain ⟨hbz, hb1, hb2⟩ : ib.zero = some (.int .u8 0) ∧ ib.size = 1 ∧ ib.bytes = 1 := by injection hbzz with a b; injection b with b c; exact ⟨a, b, c⟩
  clear hbzz
  generalize tkT n R = T at *
  generalize hce : tkE n R = ce at *
  clear hce h
  unfold ptr at *
  go_enter Tryz.func51, Tryz.ntmps51
  go_wp2_with fail
  refine U.out.mono ?_
  rintro e w1 ⟨rfl, hr1, t1⟩
  have ho1 : OkAt w1 A ok := (t1.block _ (lt_of_heap H.out.ov) (by simp; have := H.out.Aq; omega)).trans H.out.ov
  have h1 := H.out.turn t1 (by intro x hx; simp at hx; have := H.out.qr; omega) ho1 hr1
  have c2 : w1.cell? ⟨r + 1, 0, none⟩ = some (.func (.func 48) #[] #[.pointer (some ⟨A, 0, none⟩)]) := cell_of_heap h1.kv
  have KC := Lib.hid (keepc_any w1 A ok ce ho1)
  have H1 := Lib.hid h1; have T1 := Lib.hid t1
  rw [HD.out] at KC
  unfold ptr at KC
  clear c1 hr1 t1 ho1 h1 U
  go_wp2_with fail
  refine KC.out.mono ?_
  rintro e w2 ⟨rfl, ho2, t2⟩
  have hAq := H1.out.Aq
  have hr2 : ReaderAt w2 q (tkR n R) := (t2.block _ (lt_of_heap H1.out.rd) (by simp; omega)).trans H1.out.rd
  have h2 := H1.out.turn t2 (by intro x hx; simp at hx; have := H1.out.qr; omega) ho2 hr2
  have hT2 : Turn [A, q] W w2 := ((T1.out.mono (Y := [A, q]) (by simp)).trans (t2.mono (Y := [A, q]) (by simp)) (fun y hy => .inl hy))
  have hsT : (⟨T.toArray⟩ : ByteArray).size = T.length := rfl
  obtain ⟨W3, hW3⟩ : ∃ W3, W3 = Lib.bytesWorld w2 5 ⟨T.toArray⟩ := ⟨_, rfl⟩
  have hcv : (convert 9 87 (.string ⟨T.toArray⟩)).run Tryz.prog w2 = .ok (.slice (some ⟨w2.heap.size, 0, none⟩) T.length (grownCap w2 T.length 0 5)) W3 := by
    rw [hW3]; exact Lib.run_convert_string_bytes (P := Tryz.prog) w2 9 87 5 ⟨T.toArray⟩ Tryz.underlying9 Tryz.underlying87 Tryz.underlying5
  have hb3 : Below w2.heap.size w2 W3 := by
    rw [hW3]; exact ⟨rfl, rfl, rfl, by rw [Lib.bytesWorld_size]; omega, fun k hk => Lib.bytesWorld_at_old w2 _ _ k hk⟩
  have HRM : Hid (RowM W3 W.heap.size (.slice (some ⟨w2.heap.size, 0, none⟩) T.length (grownCap w2 T.length 0 5)) T) := Lib.hid (by rw [hW3]; exact rowM_conv w2 W.heap.size hT2.size T (by unfold maxLen; omega))
  have H3 := Lib.hid (h2.below hb3)
  have HT3 : Hid (Turn [A, q] W W3) := Lib.hid (hT2.trans (Turn.of_below (X := [A, q]) hb3) (fun y hy => .inl hy))
  have HRK : Hid (r + 1 < w2.heap.size ∧ W.heap.size ≤ w2.heap.size) := Lib.hid ⟨lt_of_heap h2.kv, hT2.size⟩
  have hk : (n : Int) - (T.length : Int) = ((n - T.length : Nat) : Int) := by omega
  have HK := Lib.hid hk
  clear KC c2 ho2 t2 hr2 h2 hT2 hAq hW3 hb3 hk
  go_wp2_with (first
    | (refine wpList_append_Z rfl _ _ 87 3 rfl ib Tryz.underlying87 Tryz.underlying3 hib hbz hb1 hb2 (.slice (some ⟨w2.heap.size, 0, none⟩) T.length (grownCap w2 T.length 0 5)) T (n - T.length) _ HK.out rfl HRM.out rfl (by omega) (by omega) HT3.out.size ?_
       intro v4 w4 ho4 hg4
       have HO4 := Lib.hid ho4; have HG4 := Lib.hid hg4
       clear ho4 hg4))
  go_ret
  have hge := HRM.out.lt
  have hT4 : Turn [w2.heap.size] W3 w4 := ⟨HG4.out.os, HG4.out.tape, HG4.out.output, HG4.out.size, fun k hk hx => HG4.out.block k hk (by simpa [Value.ownBlock] using hx)⟩
  have hwr : ∀ x, x < w2.heap.size → w4.heap[x]? = W3.heap[x]? := fun x hx => by
    have := (hge w2.heap.size (by simp [ob, Value.ownBlock])).2
    exact hT4.block x (by omega) (by simp; omega)
  have hrk := HRK.out
  have h3 := H3.out
  have hAq := h3.Aq; have hqr := h3.qr
  refine ⟨v4, rfl, by rw [HF.out]; exact HO4.out, h3.turn hT4 (by intro x hx; simp at hx; omega) ((hwr A (by omega)).trans h3.ov) ((hwr q (by omega)).trans h3.rd), HT3.out.trans hT4 (fun y hy => .inr (by simp at hy; omega))⟩
end Go.Proofs.YtpbhkaokgpacoaaGreatDoor.St
/-
  An entry written over another one of a row.
-/
namespace Go.Proofs.YtpbhkaokgpacoaaGreatDoor.St
open Go.RowKit Go.Maps Go.WideMaps Go.Proofs.YtpbhkaokgpacoaaGreatDoor.Rf Go.Proofs.YtpbhkaokgpacoaaGreatDoor.Rd

theorem list_mid {α : Type} (l : List α) (o : Nat) (v : α) (m : Nat) (h : o < l.length) : (l.take o ++ v :: l.drop (o + 1)).take (o + 1) = l.take o ++ [v] ∧ (l.take o ++ v :: l.drop (o + 1)).drop (o + 1 + m) = l.drop (o + 1 + m) := by
  have hA : (l.take o).length = o := by rw [List.length_take]; omega
  have hC : l.drop (o + 1 + m) = (l.drop (o + 1)).drop m := by rw [List.drop_drop]
  rw [hC]
  generalize l.take o = A at *
  generalize l.drop (o + 1) = C at *
  subst hA
  constructor
  · simp [List.take_append]
    exact List.take_of_length_le (by omega)
  · rw [Nat.add_assoc, ← List.drop_drop, List.drop_left, Nat.add_comm, List.drop_succ_cons]
theorem heap_setCells {b : Nat} {T : TypeId} : ∀ (vs : List Value) (o : Nat) (w : World) (cur : Array Value), w.heap[b]? = some (.cells cur T) → o + vs.length ≤ cur.size →
    ∃ cur' : Array Value, (w.setCells b o vs).heap[b]? = some (.cells cur' T) ∧ cur'.size = cur.size ∧ cur'.toList = cur.toList.take o ++ vs ++ cur.toList.drop (o + vs.length)
  | [], o, w, cur, h, _ => ⟨cur, h, rfl, by simp⟩
  | v :: r, o, w, cur, h, hl => by
    have h1 := setCell_heap w b o v cur T h
    have hsz : (cur.setIfInBounds o v).size = cur.size := Array.size_setIfInBounds ..
    obtain ⟨cur', a1, a2, a3⟩ := heap_setCells r (o + 1) _ _ h1 (by rw [hsz]; simp at hl; omega)
    refine ⟨cur', a1, a2.trans hsz, ?_⟩
    have ho : o < cur.toList.length := by simp at hl ⊢; omega
    rw [a3, Array.toList_setIfInBounds, List.set_eq_take_append_cons_drop, if_pos ho]
    obtain ⟨l1, l2⟩ := list_mid cur.toList o v r.length ho
    rw [l1, l2]
    simp [show o + (r.length + 1) = o + 1 + r.length by omega]
theorem cellsS_split {L : List SE} {i : Nat} {x : SE} (h : L[i]? = some x) (e : SE) : cellsS L = cellsS (L.take i) ++ (x.cells ++ cellsS (L.drop (i + 1))) ∧ cellsS (L.set i e) = cellsS (L.take i) ++ (e.cells ++ cellsS (L.drop (i + 1))) := by
  obtain ⟨hi, rfl⟩ := List.getElem?_eq_some_iff.1 h
  constructor
  · conv => lhs; rw [← List.take_append_drop i L, List.drop_eq_getElem_cons hi]
    rw [cellsS_append, cellsS_cons]
  · rw [List.set_eq_take_append_cons_drop, if_pos hi, cellsS_append, cellsS_cons]
theorem turn_setCells (w : World) (g o : Nat) (vs : List Value) : Turn [g] w (w.setCells g o vs) := by
  induction vs generalizing w o with
  | nil => exact Turn.refl _ _
  | cons v r ih => exact ((Turn.refl [g] w).setCell (p := ⟨g, o, none⟩) (.inl (by simp)) v).trans (ih _ _) (fun y hy => .inl hy)
/-- An entry written over another one. -/
theorem row_set {w : World} {B g n cap i : Nat} {T : TypeId} {L : List SE} (h : w.ownsRow B T 38 (.slice (some ⟨g, 0, none⟩) n cap) n (cellsS L)) (hn : n = L.length) (hid : ∀ e ∈ L, e.id.length = 32) (hi : i < L.length) {e : SE} (he : e.id.length = 32) :
    (w.setCells g (i * 38) e.cells).ownsRow B T 38 (.slice (some ⟨g, 0, none⟩) n cap) n (cellsS (L.set i e)) ∧ w.there g (i * 38) 38 := by
  obtain ⟨h1, ⟨e1, _⟩ | ⟨g', cap', cur, e1, a1, a2, a3, a4, a5, a6⟩⟩ := h
  · cases e1
  · injection e1 with e1 e2 e3
    injection e1 with e1
    injection e1 with e1
    subst e1 e3 hn
    obtain ⟨x, hx⟩ : ∃ x, L[i]? = some x := ⟨_, List.getElem?_eq_getElem hi⟩
    obtain ⟨s1, s2⟩ := cellsS_split hx e
    have hxl := cells_size (hid x (List.mem_of_getElem? hx))
    have hel := cells_size he
    have hl1 : (cellsS (L.take i)).length = i * 38 := by rw [cellsS_length (fun e he => hid e (List.mem_of_mem_take he)), List.length_take, Nat.min_eq_left (Nat.le_of_lt hi), Nat.mul_comm]
    have hfit : i * 38 + 38 ≤ cur.size := by
      rw [a5]
      have : (i + 1) * 38 ≤ cap * 38 := Nat.mul_le_mul_right _ (by omega)
      omega
    obtain ⟨cur', b1, b2, b3⟩ := heap_setCells e.cells (i * 38) w cur a2 (by rw [hel]; exact hfit)
    refine ⟨⟨?_, .inr ⟨g, cap, cur', rfl, a1, b1, a3, a4, b2.trans a5, ?_⟩⟩, fun j hj => ?_⟩
    · rw [cellsS_length (fun y hy => by rcases List.mem_or_eq_of_mem_set hy with h | h; exact hid y h; rw [h]; exact he), List.length_set, Nat.mul_comm]
    · rw [b3, hel, s2]
      have hlen : L.length * 38 = i * 38 + 38 + (cellsS (L.drop (i + 1))).length := by
        rw [cellsS_length (fun e he => hid e (List.mem_of_mem_drop he)), List.length_drop]; omega
      have t1 : cur.toList.take (i * 38) = cellsS (L.take i) := by
        have := congrArg (List.take (i * 38)) a6
        rw [List.take_take, Nat.min_eq_left (by omega), s1, ← hl1, List.take_left] at this
        rw [hl1] at this
        exact this
      have t2 : (cur.toList.drop (i * 38 + 38)).take ((cellsS (L.drop (i + 1))).length) = cellsS (L.drop (i + 1)) := by
        have := congrArg (List.drop (i * 38 + 38)) a6
        have hX : (cellsS (L.take i) ++ x.cells).length = i * 38 + 38 := by rw [List.length_append, hl1, hxl]
        rw [List.drop_take, s1, ← List.append_assoc, ← hX, List.drop_left, hX] at this
        rw [show L.length * 38 - (i * 38 + 38) = (cellsS (L.drop (i + 1))).length by omega] at this
        exact this
      rw [t1, List.take_append, List.take_of_length_le (by rw [List.length_append, hl1, hel]; omega), List.length_append, hl1, hel, show L.length * 38 - (i * 38 + 38) = (cellsS (L.drop (i + 1))).length by omega, t2, List.append_assoc]
    · refine ⟨?_, frozen_of_heap a2⟩
      rw [cell_of_heap a2, Array.getElem?_eq_getElem (by omega)]
      rfl
end Go.Proofs.YtpbhkaokgpacoaaGreatDoor.St
/-
  Decode: what its loop's body carries along.
-/
namespace Go.Proofs.YtpbhkaokgpacoaaGreatDoor.St
open Go.RowKit Go.Maps Go.WideMaps Go.Proofs.YtpbhkaokgpacoaaGreatDoor.Rf Go.Proofs.YtpbhkaokgpacoaaGreatDoor.Rd

/-- In the body of the loop: Decode's variables, the index, the entry that is being read. -/
structure BdSt (w : World) (A q r g b E : Nat) (S : List SE) (W : World) (R : List UInt8) (ok : Bool) (e : SE) : Prop where
  ds : DSt A q r W R ok
  ix : IndexAt (r + 2) W g b S
  he : W.heap[E]? = some (.cells e.cells.toArray 44)
  be : Below w.heap.size w W
  rE : r + 2 ≤ E
  eg : E ≠ g
  eb : E ≠ b
  wa : w.heap.size ≤ A
section
variable {w : World} {A q r g b E : Nat} {S : List SE} {W W' : World} {R R' : List UInt8} {ok ok' : Bool} {e e' : SE}
theorem BdSt.bounds (h : BdSt w A q r g b E S W R ok e) : A < q ∧ q < r ∧ r + 2 ≤ g ∧ r + 2 ≤ b ∧ r + 2 ≤ E ∧ w.heap.size ≤ A := ⟨h.ds.Aq, h.ds.qr, h.ix.baseg, h.ix.baseb, h.rE, h.wa⟩
theorem BdSt.step (h : BdSt w A q r g b E S W R ok e) (hd : DSt A q r W' R' ok') (hT : Turn [A, q] W W') : BdSt w A q r g b E S W' R' ok' e := by
  obtain ⟨h1, h2, h3, h4, h5, h6⟩ := h.bounds
  refine ⟨hd, h.ix.kept (hT.block _ h.ix.lt_g (by simp; omega)) (hT.block _ h.ix.lt_b (by simp; omega)), (hT.block _ (lt_of_heap h.he) (by simp; omega)).trans h.he, h.be.trans (hT.below (by intro x hx; simp at hx; omega) h.be.size), h.rE, h.eg, h.eb, h.wa⟩
theorem BdSt.ent (h : BdSt w A q r g b E S W R ok e) (hT : Turn [E] W W') (he : W'.heap[E]? = some (.cells e'.cells.toArray 44)) : BdSt w A q r g b E S W' R ok e' := by
  obtain ⟨h1, h2, h3, h4, h5, h6⟩ := h.bounds
  have hA := lt_of_heap h.ds.ov
  have hq := lt_of_heap h.ds.rd
  have hg := h.eg; have hb := h.eb
  refine ⟨h.ds.turn hT (by intro x hx; simp at hx; omega) ((hT.block _ hA (by simp; omega)).trans h.ds.ov) ((hT.block _ hq (by simp; omega)).trans h.ds.rd), h.ix.kept (hT.block _ h.ix.lt_g (by simp; omega)) (hT.block _ h.ix.lt_b (by simp; omega)), he, h.be.trans (hT.below (by intro x hx; simp at hx; omega) h.be.size), h.rE, h.eg, h.eb, h.wa⟩
theorem BdSt.okd (h : BdSt w A q r g b E S W R ok e) (ho : OkAt W' A ok') (hT : Turn [A] W W') : BdSt w A q r g b E S W' R ok' e := by
  obtain ⟨h1, h2, h3, h4, h5, h6⟩ := h.bounds
  have hq := lt_of_heap h.ds.rd
  exact h.step (h.ds.turn hT (by intro x hx; simp at hx; omega) ho ((hT.block _ hq (by simp; omega)).trans h.ds.rd)) (hT.mono (by simp))
theorem BdSt.cells (h : BdSt w A q r g b E S W R ok e) : W.cell? ⟨A, 0, none⟩ = some (.bool ok) ∧ W.frozen? ⟨A, 0, none⟩ = false ∧ W.cell? ⟨r, 0, none⟩ = some (.pointer (some ⟨q, 0, none⟩)) ∧ W.cell? ⟨r + 1, 0, none⟩ = some (.func (.func 48) #[] #[.pointer (some ⟨A, 0, none⟩)]) :=
  ⟨cell_of_heap h.ds.ov, frozen_of_heap h.ds.ov, cell_of_heap h.ds.rv, cell_of_heap h.ds.kv⟩
theorem BdSt.fz (h : BdSt w A q r g b E S W R ok e) (j : Nat) : W.frozen? ⟨E, j, none⟩ = false := frozen_of_heap h.he
end
theorem ent0 (p : List UInt8) : Tryz.prog.built 44 [(0, .string ⟨p.toArray⟩)] = some (SE.cells ⟨p, 0, 0, 0, 0, 0, List.replicate 32 0⟩).toArray := by kernel_rfl
section
variable {W : World} {E : Nat} {e : SE} {T : TypeId}
theorem ent1 (h : W.heap[E]? = some (.cells e.cells.toArray T)) (n : Nat) : (W.setCell ⟨E, 1, none⟩ (.int .u8 (n : Int))).heap[E]? = some (.cells (SE.cells ⟨e.path, n, e.size, e.ino, e.tick, e.kind, e.id⟩).toArray T) := by rw [setCell_heap _ _ _ _ _ _ h]; simp [SE.cells]
theorem ent2 (h : W.heap[E]? = some (.cells e.cells.toArray T)) (n : Int) : (W.setCell ⟨E, 2, none⟩ (.int .i64 n)).heap[E]? = some (.cells (SE.cells ⟨e.path, e.node, n, e.ino, e.tick, e.kind, e.id⟩).toArray T) := by rw [setCell_heap _ _ _ _ _ _ h]; simp [SE.cells]
theorem ent3 (h : W.heap[E]? = some (.cells e.cells.toArray T)) (n : Nat) : (W.setCell ⟨E, 3, none⟩ (.int .u64 (n : Int))).heap[E]? = some (.cells (SE.cells ⟨e.path, e.node, e.size, n, e.tick, e.kind, e.id⟩).toArray T) := by rw [setCell_heap _ _ _ _ _ _ h]; simp [SE.cells]
theorem ent4 (h : W.heap[E]? = some (.cells e.cells.toArray T)) (n : Int) : (W.setCell ⟨E, 4, none⟩ (.int .i64 n)).heap[E]? = some (.cells (SE.cells ⟨e.path, e.node, e.size, e.ino, n, e.kind, e.id⟩).toArray T) := by rw [setCell_heap _ _ _ _ _ _ h]; simp [SE.cells]
theorem ent5 (h : W.heap[E]? = some (.cells e.cells.toArray T)) (n : Nat) : (W.setCell ⟨E, 5, none⟩ (.int .u8 (n : Int))).heap[E]? = some (.cells (SE.cells ⟨e.path, e.node, e.size, e.ino, e.tick, n, e.id⟩).toArray T) := by rw [setCell_heap _ _ _ _ _ _ h]; simp [SE.cells]
theorem ent6 (h : W.heap[E]? = some (.cells e.cells.toArray T)) (hi : e.id.length = 32) (l : List UInt8) (hl : l.length = 32) : (W.setCells E 6 (Lib.byteCells l)).heap[E]? = some (.cells (SE.cells ⟨e.path, e.node, e.size, e.ino, e.tick, e.kind, l⟩).toArray T) ∧ W.there E 6 32 ∧ Turn [E] W (W.setCells E 6 (Lib.byteCells l)) := by
  have h38 : e.cells.toArray.size = 38 := by rw [List.size_toArray, cells_size hi]
  obtain ⟨cur', h1, h2, h3⟩ := heap_setCells (Lib.byteCells l) 6 W e.cells.toArray h (by rw [Lib.byteCells_length, hl, h38]; decide)
  refine ⟨?_, ?_, turn_setCells _ _ _ _⟩
  · rw [h1]
    congr 2
    apply Array.toList_inj.1
    rw [h3, Lib.byteCells_length, hl, List.drop_eq_nil_of_le (by rw [Array.length_toList, h38]; decide)]
    simp [SE.cells]
  · intro j hj
    refine ⟨?_, frozen_of_heap h⟩
    rw [cell_of_heap h, Array.getElem?_eq_getElem (by omega)]
    rfl
theorem cell_ent (h : W.heap[E]? = some (.cells e.cells.toArray T)) : W.cell? ⟨E, 1, none⟩ = some (.int .u8 (e.node : Int)) ∧ W.cell? ⟨E, 2, none⟩ = some (.int .i64 e.size) ∧ W.cell? ⟨E, 3, none⟩ = some (.int .u64 (e.ino : Int)) ∧ W.cell? ⟨E, 4, none⟩ = some (.int .i64 e.tick) ∧ W.cell? ⟨E, 5, none⟩ = some (.int .u8 (e.kind : Int)) := by
  refine ⟨?_, ?_, ?_, ?_, ?_⟩ <;> (rw [cell_of_heap h]; rfl)
end
theorem wpList_build0 {ops : Array Oper} {rest : List Oper} {o : Oper} {a : Act} {w : World} {Q : Exit → Act → World → Prop} (hgd : o.guard = none) (x : Operand) (ho : o.op = .build 44 #[(0, x)]) (p : List UInt8) (hx : a.eval x = .string ⟨p.toArray⟩)
    (h : wpList Tryz.prog ops Q rest (a.put o.dst (enV ⟨p, 0, 0, 0, 0, 0, List.replicate 32 0⟩)) w) : wpList Tryz.prog ops Q (o :: rest) a w :=
  wpList_plain hgd fun _ hK => by
    have hc := run_build (P := Tryz.prog) w 44 #[(0, .string ⟨p.toArray⟩)] (SE.cells ⟨p, 0, 0, 0, 0, 0, List.replicate 32 0⟩).toArray (ent0 p)
    unfold Oper.wp execOp
    simp only [ho, List.map_toArray, List.map_cons, List.map_nil, hx, Sem.run_bind, hc, Result.andThen_ok]
    exact hK _ _ h
theorem txE_dec (n : Nat) (R : List UInt8) : decide (txE n R = 0) = txB n R := by
  unfold txE txB; cases (txt n R).isSome <;> simp
theorem tk_one {w : World} {B : Nat} {v : Value} {R : List UInt8} (h : RowM w B v (tkF 1 R)) : ∃ (g cap nd : Nat), nd = ((tkF 1 R).headD 0).toNat ∧ v = .slice (some ⟨g, 0, none⟩) 1 cap ∧ w.cell? ⟨g, 0, none⟩ = some (.int .u8 (nd : Int)) := by
  have h0 := h
  obtain ⟨g, cap, cur, fz, rfl, _⟩ := h
  refine ⟨g, cap, _, rfl, by rw [tkF_len], ?_⟩
  have hl := tkF_len 1 R
  match hh : tkF 1 R, hl with
  | [c], _ =>
    rw [hh] at h0
    exact h0.range 0 _ rfl
theorem tk_id {w : World} {B : Nat} {v : Value} {R : List UInt8} (h : RowM w B v (tkF 32 R)) : ∃ g cap, v = .slice (some ⟨g, 0, none⟩) 32 cap ∧ w.rangeAt g 0 (Lib.byteCells (tkF 32 R)) := by
  have h0 := h
  obtain ⟨g, cap, cur, fz, rfl, _⟩ := h
  exact ⟨g, cap, by rw [tkF_len], h0.range⟩
end Go.Proofs.YtpbhkaokgpacoaaGreatDoor.St
