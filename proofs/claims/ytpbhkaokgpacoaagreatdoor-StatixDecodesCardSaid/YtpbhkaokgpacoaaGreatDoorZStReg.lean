import Derived.Test.YtpbhkaokgpacoaaGreatDoorZStStep
import Derived.Test.YtpbhkaokgpacoaaGreatDoorZRowKit
set_option linter.unusedSimpArgs false
set_option linter.unusedVariables false
/-
  Steps of a region that draws its order, over variables of many cells.
-/
namespace Go.Proofs.YtpbhkaokgpacoaaGreatDoor.St
open Go.RowKit Go.Maps Go.WideMaps Go.Proofs.YtpbhkaokgpacoaaGreatDoor.Rf

theorem run_look {o : Oper} {a : Act} {w : World} {m x : Operand} {c : Bool} {T : TypeId} {mv k v : Value} (ho : o.op = .lookup T m x c) (hm : a.eval m = mv) (hx : a.eval x = k) (h : (Instr.lookup T mv k c).run Tryz.prog w = .ok v w) : (execOp a.eval o).run Tryz.prog w = .ok (.value v) w := by
  simp [execOp, ho, hm, hx, h, Result.andThen]

section
variable {P : Program} {ops : Array Oper} {o : Oper} {a : Act} {w : World} {K : Act → World → Prop} {Q : Exit → Act → World → Prop} {E : Prop}
theorem step_wp (hgd : o.guard = none) (h : Oper.wp P o a w K Q) : if Region.wanted o (yielded ops a.tmps) = true then Oper.wp P o a w K Q else E := by
  have hw : Region.wanted o (yielded ops a.tmps) = true := by simp [Region.wanted, hgd]
  rw [if_pos hw]
  exact h
theorem wp_store_new {old : Array Value} {T : TypeId} {p : Nat} (hp : p = w.heap.size) (ty : TypeId) (x y : Operand) (ho : o.op = .store ty x y)
    (cs : Array Value) (hx : a.eval x = .pointer (some ⟨p, 0, none⟩)) (hy : a.eval y = .agg cs) (hi : (P.info? ty).map (·.size) = some cs.size) (hold : old.size = cs.size) (h1 : cs.all (·.oneCell') = true)
    (h : ∀ w2 : World, w2.heap[p]? = some (.cells cs T) → Below p w w2 → w2.heap.size = p + 1 → K (a.put o.dst undef) w2) :
    o.wp P a (w.alloc (.cells old T)) K Q := by
  subst hp
  refine wp_store_row ty x y ho w.heap.size cs hx hy T old (MapKept.heap_alloc w _).1 hi hold h1 ?_
  obtain ⟨a1, a2⟩ := store_new w T old cs
  exact h _ a1 a2 (by rw [setRow_size, one_size])
/-- A load of many cells, under a guard that holds. -/
theorem wpList_want_load {rest : List Oper} {Q : Exit → Act → World → Prop} (hw : Region.wanted o (yielded ops a.tmps) = true) (ty : TypeId) (x : Operand) (ho : o.op = .load ty x)
    (b off : Nat) (hx : a.eval x = .pointer (some ⟨b, off, none⟩)) (cs : List Value) (d : TypeDesc) (hc : w.rangeAt b off cs)
    (hu : P.underlying ty = some d) (hd : d.isRow = true) (hi : (P.info? ty).map (·.size) = some cs.length)
    (h : wpList P ops Q rest (a.put o.dst (.agg cs.toArray)) w) : wpList P ops Q (o :: rest) a w := by
  unfold wpList
  rw [if_pos hw]
  exact .inl (wp_load_mid ty x ho b off hx cs d hc hu hd hi h)
/-- An op whose value is known, under a guard that holds. -/
theorem wpList_want_run {rest : List Oper} {Q : Exit → Act → World → Prop} (hw : Region.wanted o (yielded ops a.tmps) = true) (v : Value) (hrun : (execOp a.eval o).run P w = .ok (.value v) w)
    (h : wpList P ops Q rest (a.put o.dst v) w) : wpList P ops Q (o :: rest) a w := by
  unfold wpList
  rw [if_pos hw]
  refine .inl ?_
  unfold Oper.wp
  rw [hrun]
  exact h
theorem wp_store_at {old : Array Value} {T : TypeId} {g : Nat} (hg : w.heap[g]? = some (.cells old T)) (ty : TypeId) (x y : Operand) (ho : o.op = .store ty x y)
    (cs : Array Value) (hx : a.eval x = .pointer (some ⟨g, 0, none⟩)) (hy : a.eval y = .agg cs) (hi : (P.info? ty).map (·.size) = some cs.size) (hold : old.size = cs.size) (h1 : cs.all (·.oneCell') = true)
    (h : ∀ w2 : World, w2.heap[g]? = some (.cells cs T) → Turn [g] w w2 → w2.heap.size = w.heap.size → K (a.put o.dst undef) w2) :
    o.wp P a w K Q := by
  refine wp_store_row ty x y ho g cs hx hy T old hg hi hold h1 ?_
  exact h _ (setRow_heap _ _ _ _ _ _ hg) ⟨rfl, rfl, rfl, by simp [World.setRow], fun k _ hk => setRow_other _ _ _ _ (by simpa using hk)⟩ (setRow_size _ _ _)
end

theorem cell_turn {X : List Nat} {w w' : World} (h : Turn X w w') {x j : Nat} {v : Value} (hx : x < w.heap.size) (hn : x ∉ X) (hc : w.cell? ⟨x, j, none⟩ = some v) : w'.cell? ⟨x, j, none⟩ = some v :=
  (World.cell?_of_block (a := ⟨x, j, none⟩) (h.block x hx hn)).trans hc
theorem range_turn {X : List Nat} {w w' : World} (h : Turn X w w') {x o : Nat} {cs : List Value} (hx : x < w.heap.size) (hn : x ∉ X) (hc : w.rangeAt x o cs) : w'.rangeAt x o cs :=
  fun j v hv => cell_turn h hx hn (hc j v hv)
/-- An entry laid into an index's map. -/
theorem IndexAt.store {B : Nat} {w : World} {g b : Nat} {L : List SE} (h : IndexAt B w g b L) {e : SE} (he : e.Fits) (hl : (insL e L).length ≤ 65536) :
    ∃ w', (Instr.mapUpdate 90 (.map (some b)) (.string ⟨e.path.toArray⟩) (enV e)).run Tryz.prog w = .ok () w' ∧ IndexAt B w' g b (insL e L) ∧ Turn [b] w w' := by
  obtain ⟨w', hrun, hown, ht⟩ := h.map.store law Tryz.underlying90 (by decide) (val := enV e) (keyK ⟨e.path.toArray⟩ (by show e.path.length ≤ _; have := he.path; unfold maxLen; omega)) rfl
  have t := ht.grown
  have hT : Turn [b] w w' := ⟨t.os, t.tape, t.output, t.size, fun k hk hx => t.block k hk (by simpa using hx)⟩
  refine ⟨w', hrun, ⟨(hT.block _ h.lt_g (by simpa using h.gb)).trans h.book, ?_, h.gb, h.baseg, h.baseb, insL_srt e h.srt, fun x hx => ?_, hl⟩, hT⟩
  · have e1 : (⟨e.path.toArray⟩ : ByteArray).data.toList = e.path := by simp
    rw [e1, toD_put enV (toZ L) e.path e, toZ_put h.srt] at hown
    exact map_tight hown (by rw [toZ_length]; omega)
  · rcases mem_insL hx with rfl | hx
    · exact he
    · exact h.fits x hx
theorem insL_same {e : SE} : ∀ {L : List SE}, (getL e.path L).isSome = true → (insL e L).length = L.length
  | [], h => by simp [getL] at h
  | y :: r, h => by
    rw [getL] at h; rw [insL]
    split
    · next hy => rw [if_pos hy] at h; simp [insL_same h]
    · next hy =>
      rw [if_neg hy] at h
      split
      · rfl
      · next hp => rw [if_neg hp] at h; cases h
end Go.Proofs.YtpbhkaokgpacoaaGreatDoor.St
/-
  The contracts of Drop and Fresh.
-/
namespace Go.Proofs.YtpbhkaokgpacoaaGreatDoor.St
open Go.RowKit Go.Maps Go.WideMaps Go.Proofs.YtpbhkaokgpacoaaGreatDoor.Rf

theorem IndexAt.delete {B : Nat} {w w' : World} {g b : Nat} {L : List SE} (h : IndexAt B w g b L) {p : List UInt8} (hown : w'.ownsMap Tryz.prog 9 Rv b 1000000 ((toD enV (toZ L)).del (.string p))) (ht : Turn [b] w w') : IndexAt B w' g b (remL p L) := by
  rw [toD_del, toZ_del p h.srt] at hown
  have hs := remL_sub p L
  exact ⟨(ht.block _ h.lt_g (by simpa using h.gb)).trans h.book, hown, h.gb, h.baseg, h.baseb, remL_srt h.srt, fun x hx => h.fits x (hs.mem hx), Nat.le_trans hs.length_le h.len⟩

set_option maxHeartbeats 4000000 in
set_option maxRecDepth 100000 in
theorem drop_any (B : Nat) (w : World) (g b : Nat) (L : List SE) (S : ByteArray) (hS : S.size ≤ maxLen) (h : IndexAt B w g b L) :
    Calls Tryz.prog 14 #[ptr g, .string S] w fun e w' => e = .returned (.int .i64 (getE S.data.toList L)) ∧ IndexAt B w' g b (remL S.data.toList L) ∧ Turn [b] w w' := by
  have GT := Lib.hid (get_any B w g b L S hS h)
  have VOK := Lib.hid (h.fitsGet S.data.toList).en
  have H := Lib.hid h
  unfold ptr getE getV at *
  obtain ⟨V, hV⟩ : ∃ V, V = (getL S.data.toList L).getD zeroS := ⟨_, rfl⟩
  rw [← hV] at GT VOK
  clear hV h
  cases hg : getL S.data.toList L with
  | none =>
    rw [hg] at GT
    have HRN := Lib.hid (remL_none hg)
    clear hg
    go_enter Tryz.func14, Tryz.ntmps14
    go_wp2_with fail
    refine GT.out.mono ?_
    rintro e w1 ⟨rfl, hb1⟩
    have HB1 := Lib.hid hb1
    clear hb1 GT
    go_wp2_with (first
      | (refine wpList_store_new (by first | rfl | rw [one_size]) rfl _ _ _ rfl V.cells.toArray rfl rfl VOK.out.info VOK.out.z VOK.out.one ?_
         intro w2 hq2 hb2 hs2
         have HB2 := Lib.hid (HB1.out.trans (hb2.mono HB1.out.size))
         clear hq2 hb2 hs2))
    go_ret
    rw [HRN.out]
    exact ⟨rfl, H.out.below HB2.out, Turn.of_below HB2.out⟩
  | some en =>
    rw [hg] at GT
    clear hg
    go_enter Tryz.func14, Tryz.ntmps14
    go_wp2_with fail
    refine GT.out.mono ?_
    rintro e w1 ⟨rfl, hb1⟩
    have HB1 := Lib.hid hb1
    clear hb1 GT
    go_wp2_with (first
      | (refine wpList_store_new (by first | rfl | rw [one_size]) rfl _ _ _ rfl V.cells.toArray rfl rfl VOK.out.info VOK.out.z VOK.out.one ?_
         intro w2 hq2 hb2 hs2
         have HB2 := Lib.hid (HB1.out.trans (hb2.mono HB1.out.size))
         have H2 := Lib.hid (H.out.below HB2.out)
         have c2 : w2.cell? ⟨g, 0, none⟩ = some (.map (some b)) := cell_of_heap H2.out.book
         have HM := Lib.hid H2.out.map
         clear hq2 hb2 hs2)
      | (at_delete
         refine wpList_delete_own _ rfl _ _ 90 9 rfl 44 law Tryz.underlying90 _ b 1000000 _ rfl HM.out _ _ rfl (keyK S hS) ?_
         intro w3 hown3 hturn3
         have HO := Lib.hid hown3; have HT := Lib.hid hturn3
         clear hown3 hturn3))
    go_ret
    have t := HT.out.grown
    have hT : Turn [b] w2 w3 := ⟨t.os, t.tape, t.output, t.size, fun k hk hx => t.block k hk (by simpa using hx)⟩
    exact ⟨rfl, H2.out.delete HO.out hT, (Turn.of_below HB2.out : Turn [b] w w2).trans hT (fun y hy => .inl hy)⟩

/-- Is an entry's stat this one? -/
def statIs (e s : SE) : Bool := decide (e.node = s.node) && decide (e.size = s.size) && decide (e.ino = s.ino) && decide (e.tick = s.tick)
def freshX (p : List UInt8) (s : SE) (L : List SE) : SE × Bool :=
  match getL p L with
  | none => (zeroS, false)
  | some e => if statIs e s then (e, true) else (zeroS, false)
theorem neq_stat (w : World) (e s : SE) : (binOp .neq 40 (.agg e.stat.toArray) (.agg s.stat.toArray)).run Tryz.prog w = .ok (.bool (!statIs e s)) w := by
  unfold SE.stat statIs
  go_simp
  by_cases h1 : e.node = s.node
  · by_cases h2 : e.size = s.size
    · by_cases h3 : e.ino = s.ino
      · by_cases h4 : e.tick = s.tick
        · simp [h1, h2, h3, h4]
        · simp [h1, h2, h3, h4]
      · have h3' : ¬ (e.ino : Int) = (s.ino : Int) := by omega
        simp [h1, h2, h3, h3']
    · simp [h1, h2]
  · have h1' : ¬ (e.node : Int) = (s.node : Int) := by omega
    simp [h1, h1']
end Go.Proofs.YtpbhkaokgpacoaaGreatDoor.St
/-
  The contracts of the reader at any bytes: short.
-/
namespace Go.Proofs.YtpbhkaokgpacoaaGreatDoor.Rd
open Go.RowKit Go.Maps Go.WideMaps Go.Proofs.YtpbhkaokgpacoaaGreatDoor.Rf

theorem shift7 (b : UInt8) (i : Nat) (hi : i ≤ 9) (h9 : i = 9 → b.toNat ≤ 1) : b.toNat % 128 * 128 ^ i < 18446744073709551616 := by
  have p64 : 128 ^ 9 * 2 = 18446744073709551616 := by decide
  by_cases h : i = 9
  · subst h
    have := h9 rfl
    have : b.toNat % 128 * 128 ^ 9 ≤ 1 * 128 ^ 9 := Nat.mul_le_mul_right _ (by omega)
    omega
  · have e1 : b.toNat % 128 * 128 ^ i ≤ 127 * 128 ^ i := Nat.mul_le_mul_right _ (by omega)
    have e2 : 128 ^ (i + 1) ≤ 128 ^ 9 := Nat.pow_le_pow_right (by decide) (by omega)
    rw [Nat.pow_succ] at e2
    omega
theorem or7 (n : Nat) (b : UInt8) (i : Nat) (hn : n < 18446744073709551616) (h : n < 128 ^ i) (hi : i ≤ 9) (h9 : i = 9 → b.toNat ≤ 1) :
    bits .or .u64 (n : Int) (IntKind.u64.wrap (IntKind.u64.wrap (bits .and .u8 (b.toNat : Int) 127) * 2 ^ (7 * i))) = ((n + b.toNat % 128 * 128 ^ i : Nat) : Int) := by
  have hs7 := shift7 b i hi h9
  have e : (2 : Int) ^ (7 * i) = ((128 ^ i : Nat) : Int) := by rw [show (128 : Nat) = 2 ^ 7 from rfl, ← Nat.pow_mul]; simp
  have e2 : ((b.toNat % 128 : Nat) : Int) * ((128 ^ i : Nat) : Int) = ((b.toNat % 128 * 128 ^ i : Nat) : Int) := (Int.natCast_mul _ _).symm
  have e3 : ((b.toNat % 128 : Nat) : Int) % 18446744073709551616 = ((b.toNat % 128 : Nat) : Int) := by omega
  have e4 : ((b.toNat % 128 * 128 ^ i : Nat) : Int) % 18446744073709551616 = ((b.toNat % 128 * 128 ^ i : Nat) : Int) := by omega
  rw [and127, IntKind.wrap_u64, IntKind.wrap_u64, e3, e, e2, e4, bits_or_u64_nat n _ hn hs7, or_add n _ i h]
theorem add7 (n : Nat) (b : UInt8) (i : Nat) (hi : i ≤ 9) (h : n < 128 ^ i) (h9 : i = 9 → b.toNat ≤ 1) : n + b.toNat % 128 * 128 ^ i < 128 ^ (i + 1) ∧ n + b.toNat % 128 * 128 ^ i < 18446744073709551616 := by
  have p64 : 128 ^ 9 * 2 = 18446744073709551616 := by decide
  have e1 : b.toNat % 128 * 128 ^ i ≤ 127 * 128 ^ i := Nat.mul_le_mul_right _ (by omega)
  refine ⟨by rw [Nat.pow_succ]; omega, ?_⟩
  by_cases h' : i = 9
  · subst h'
    have := h9 rfl
    have : b.toNat % 128 * 128 ^ 9 ≤ 1 * 128 ^ 9 := Nat.mul_le_mul_right _ (by omega)
    omega
  · have e2 : 128 ^ (i + 1) ≤ 128 ^ 9 := Nat.pow_le_pow_right (by decide) (by omega)
    rw [Nat.pow_succ] at e2
    omega
theorem rd_ten (n : Nat) (l : List UInt8) : Rf.rd 10 n l = none := by
  cases l with
  | nil => rfl
  | cons b r => rw [Rf.rd, if_pos (by decide)]

set_option maxHeartbeats 4000000 in
set_option maxRecDepth 100000 in
theorem short_any (w : World) (L : List UInt8) (hl : L.length ≤ 140737488355328) :
    Calls Tryz.prog 82 #[.string ⟨L.toArray⟩] w fun e w' => e = .returned (.tuple #[.int .u64 (shN L : Int), .int .i64 (shK L)]) ∧ w' = w := by
  have hs : (⟨L.toArray⟩ : ByteArray).size = L.length := rfl
  by_cases h10 : (L.length : Int) ≤ 10
  · have hL : L.length ≤ 10 := by omega
    go_enter Tryz.func82, Tryz.ntmps82
    go_wp2
    go_loopw [2, 9] (fun v2 v9 wr => ∃ (i n : Nat), i ≤ L.length ∧ v2 = .int .u64 (n : Int) ∧ v9 = .int .i64 (i : Int) ∧ wr = w ∧ n < 18446744073709551616 ∧ Hid (n < 128 ^ i ∧ rd0 L = Rf.rd i n (L.drop i))) (fun _ v9 _ => L.length - (RowKit.intOf v9).toNat)
    case atStart => exact ⟨0, 0, by omega, rfl, rfl, rfl, by omega, Lib.hid ⟨by decide, rfl⟩⟩
    case round =>
      obtain ⟨i, n, hiM, rfl, rfl, rfl, hn, HR⟩ := hrel
      have hi : i ≤ 10 := by omega
      by_cases hlt : (i : Int) < (L.length : Int)
      · have hil : i < L.length := by omega
        obtain ⟨b, hb⟩ : ∃ b, b = L[i] := ⟨_, rfl⟩
        have hidx : (⟨L.toArray⟩ : ByteArray)[i]'(by rw [hs]; omega) = b := by rw [hb]; rfl
        have hd : Hid (L.drop i = b :: L.drop (i + 1)) := Lib.hid (by rw [hb]; exact List.drop_eq_getElem_cons hil)
        have hbb := UInt8.toNat_lt b
        have hrd : Hid (rd0 L = Rf.rd i n (b :: L.drop (i + 1))) := Lib.hid (by rw [HR.out.2, hd.out])
        clear hb
        by_cases hbad : (i = 9 ∧ 1 < b.toNat) ∨ (0 < i ∧ b.toNat = 0)
        · have hz : Hid (rd0 L = none) := Lib.hid (by rw [hrd.out, Rf.rd, if_neg (by omega), if_pos hbad])
          have e1 : Hid (shN L = 0 ∧ shK L = -1) := Lib.hid ⟨by rw [shN, hz.out], by rw [shK, hz.out]⟩
          by_cases h9 : i = 9 ∧ 1 < b.toNat
          · obtain ⟨rfl, hb1⟩ := h9
            have hb2 : (1 : Int) < (b.toNat : Int) := by omega
            clear hbad
            go_wp2
            go_ret2
            rw [e1.out.1, e1.out.2]
            exact ⟨rfl, rfl⟩
          · have h0 : (0 : Int) < (i : Int) := by omega
            have hb0 : ((b.toNat : Int) == 0) = true := by rw [beq_iff_eq]; omega
            by_cases h99 : i = 9
            · subst h99
              have hb2 : ¬ (1 : Int) < (b.toNat : Int) := by omega
              clear hbad h9
              go_wp2
              go_ret2
              rw [e1.out.1, e1.out.2]
              exact ⟨rfl, rfl⟩
            · have h98 : ((i : Int) == 9) = false := by rw [beq_eq_false_iff_ne]; omega
              clear hbad h9 h99
              go_wp2
              go_ret2
              rw [e1.out.1, e1.out.2]
              exact ⟨rfl, rfl⟩
        · have hgood : Hid (¬ ((i = 9 ∧ 1 < b.toNat) ∨ (0 < i ∧ b.toNat = 0))) := Lib.hid hbad
          have hor := Lib.hid (or7 n b i hn HR.out.1 (by omega) (by omega))
          have hadd := Lib.hid (add7 n b i (by omega) HR.out.1 (by omega))
          by_cases h9 : i = 9
          · subst h9
            have hgood2 : Hid (¬ (((9 : Nat) = 9 ∧ 1 < b.toNat) ∨ (0 < 9 ∧ b.toNat = 0))) := hgood
            clear hgood
            have hgood := hgood2
            have hb1 : ¬ (1 : Int) < (b.toNat : Int) := by omega
            have hb0 : ((b.toNat : Int) == 0) = false := by rw [beq_eq_false_iff_ne]; omega
            have hb2 : (b.toNat : Int) < 128 := by omega
            have hz : Hid (rd0 L = some (n + b.toNat % 128 * 128 ^ 9, 10)) := Lib.hid (by
              rw [hrd.out, Rf.rd, if_neg (by omega), if_neg hgood.out, if_pos (by omega), Nat.mod_eq_of_lt (by omega)])
            have e1 : Hid (shN L = n + b.toNat % 128 * 128 ^ 9 ∧ shK L = ((10 : Nat) : Int)) := Lib.hid ⟨by rw [shN, hz.out], by rw [shK, hz.out]⟩
            clear hbad hgood2
            go_wp2
            go_ret2
            rw [e1.out.1, e1.out.2]
            exact ⟨congrArg (fun z => Ending.returned (.tuple #[.int .u64 z, .int .i64 ((10 : Nat) : Int)])) hor.out, rfl⟩
          · have h98 : ((i : Int) == 9) = false := by rw [beq_eq_false_iff_ne]; omega
            by_cases h0 : i = 0
            · have h00 : ¬ (0 : Int) < (i : Int) := by omega
              by_cases hb2 : (b.toNat : Int) < 128
              · have hz : Hid (rd0 L = some (n + b.toNat % 128 * 128 ^ i, i + 1)) := Lib.hid (by
                  rw [hrd.out, Rf.rd, if_neg (by omega), if_neg hgood.out, if_pos (by omega), Nat.mod_eq_of_lt (by omega)])
                have e1 : Hid (shN L = n + b.toNat % 128 * 128 ^ i ∧ shK L = ((i + 1 : Nat) : Int)) := Lib.hid ⟨by rw [shN, hz.out], by rw [shK, hz.out]⟩
                clear hbad h0 h9
                go_wp2
                go_ret2
                rw [e1.out.1, e1.out.2]
                exact ⟨congrArg (fun z => Ending.returned (.tuple #[.int .u64 z, .int .i64 (((i + 1 : Nat) : Int))])) hor.out, rfl⟩
              · have hz : Hid (rd0 L = Rf.rd (i + 1) (n + b.toNat % 128 * 128 ^ i) (L.drop (i + 1))) := Lib.hid (by
                  rw [hrd.out, Rf.rd, if_neg (by omega), if_neg hgood.out, if_neg (by omega), show b.toNat - 128 = b.toNat % 128 by omega])
                have hn2 := hadd.out
                clear hbad h0 h9
                go_wp2
                go_roundw
                case rel => exact ⟨i + 1, n + b.toNat % 128 * 128 ^ i, by omega, congrArg (Value.int .u64) hor.out, by simp, trivial, hn2.2, Lib.hid ⟨hn2.1, hz.out⟩⟩
                case measure => simp [RowKit.intOf]; omega
            · have h00 : (0 : Int) < (i : Int) := by omega
              have hb0 : ((b.toNat : Int) == 0) = false := by rw [beq_eq_false_iff_ne]; omega
              by_cases hb2 : (b.toNat : Int) < 128
              · have hz : Hid (rd0 L = some (n + b.toNat % 128 * 128 ^ i, i + 1)) := Lib.hid (by
                  rw [hrd.out, Rf.rd, if_neg (by omega), if_neg hgood.out, if_pos (by omega), Nat.mod_eq_of_lt (by omega)])
                have e1 : Hid (shN L = n + b.toNat % 128 * 128 ^ i ∧ shK L = ((i + 1 : Nat) : Int)) := Lib.hid ⟨by rw [shN, hz.out], by rw [shK, hz.out]⟩
                clear hbad h0 h9
                go_wp2
                go_ret2
                rw [e1.out.1, e1.out.2]
                exact ⟨congrArg (fun z => Ending.returned (.tuple #[.int .u64 z, .int .i64 (((i + 1 : Nat) : Int))])) hor.out, rfl⟩
              · have hz : Hid (rd0 L = Rf.rd (i + 1) (n + b.toNat % 128 * 128 ^ i) (L.drop (i + 1))) := Lib.hid (by
                  rw [hrd.out, Rf.rd, if_neg (by omega), if_neg hgood.out, if_neg (by omega), show b.toNat - 128 = b.toNat % 128 by omega])
                have hn2 := hadd.out
                clear hbad h0 h9
                go_wp2
                go_roundw
                case rel => exact ⟨i + 1, n + b.toNat % 128 * 128 ^ i, by omega, congrArg (Value.int .u64) hor.out, by simp, trivial, hn2.2, Lib.hid ⟨hn2.1, hz.out⟩⟩
                case measure => simp [RowKit.intOf]; omega
      · have hz : Hid (rd0 L = none) := Lib.hid (by
          rw [HR.out.2]
          rw [List.drop_eq_nil_of_le (by omega)]; rfl)
        have e1 : Hid (shN L = 0 ∧ shK L = -1) := Lib.hid ⟨by rw [shN, hz.out], by rw [shK, hz.out]⟩
        go_wp2
        go_ret2
        rw [e1.out.1, e1.out.2]
        exact ⟨rfl, rfl⟩
  · have hL : 10 < (L.length : Int) := by omega
    go_enter Tryz.func82, Tryz.ntmps82
    go_wp2
    go_loopw [2, 9] (fun v2 v9 wr => ∃ (i n : Nat), i ≤ 10 ∧ v2 = .int .u64 (n : Int) ∧ v9 = .int .i64 (i : Int) ∧ wr = w ∧ n < 18446744073709551616 ∧ Hid (n < 128 ^ i ∧ rd0 L = Rf.rd i n (L.drop i))) (fun _ v9 _ => 10 - (RowKit.intOf v9).toNat)
    case atStart => exact ⟨0, 0, by omega, rfl, rfl, rfl, by omega, Lib.hid ⟨by decide, rfl⟩⟩
    case round =>
      obtain ⟨i, n, hiM, rfl, rfl, rfl, hn, HR⟩ := hrel
      have hi : i ≤ 10 := by omega
      by_cases hlt : (i : Int) < 10
      · have hil : i < L.length := by omega
        obtain ⟨b, hb⟩ : ∃ b, b = L[i] := ⟨_, rfl⟩
        have hidx : (⟨L.toArray⟩ : ByteArray)[i]'(by rw [hs]; omega) = b := by rw [hb]; rfl
        have hd : Hid (L.drop i = b :: L.drop (i + 1)) := Lib.hid (by rw [hb]; exact List.drop_eq_getElem_cons hil)
        have hbb := UInt8.toNat_lt b
        have hrd : Hid (rd0 L = Rf.rd i n (b :: L.drop (i + 1))) := Lib.hid (by rw [HR.out.2, hd.out])
        clear hb
        by_cases hbad : (i = 9 ∧ 1 < b.toNat) ∨ (0 < i ∧ b.toNat = 0)
        · have hz : Hid (rd0 L = none) := Lib.hid (by rw [hrd.out, Rf.rd, if_neg (by omega), if_pos hbad])
          have e1 : Hid (shN L = 0 ∧ shK L = -1) := Lib.hid ⟨by rw [shN, hz.out], by rw [shK, hz.out]⟩
          by_cases h9 : i = 9 ∧ 1 < b.toNat
          · obtain ⟨rfl, hb1⟩ := h9
            have hb2 : (1 : Int) < (b.toNat : Int) := by omega
            clear hbad
            go_wp2
            go_ret2
            rw [e1.out.1, e1.out.2]
            exact ⟨rfl, rfl⟩
          · have h0 : (0 : Int) < (i : Int) := by omega
            have hb0 : ((b.toNat : Int) == 0) = true := by rw [beq_iff_eq]; omega
            by_cases h99 : i = 9
            · subst h99
              have hb2 : ¬ (1 : Int) < (b.toNat : Int) := by omega
              clear hbad h9
              go_wp2
              go_ret2
              rw [e1.out.1, e1.out.2]
              exact ⟨rfl, rfl⟩
            · have h98 : ((i : Int) == 9) = false := by rw [beq_eq_false_iff_ne]; omega
              clear hbad h9 h99
              go_wp2
              go_ret2
              rw [e1.out.1, e1.out.2]
              exact ⟨rfl, rfl⟩
        · have hgood : Hid (¬ ((i = 9 ∧ 1 < b.toNat) ∨ (0 < i ∧ b.toNat = 0))) := Lib.hid hbad
          have hor := Lib.hid (or7 n b i hn HR.out.1 (by omega) (by omega))
          have hadd := Lib.hid (add7 n b i (by omega) HR.out.1 (by omega))
          by_cases h9 : i = 9
          · subst h9
            have hgood2 : Hid (¬ (((9 : Nat) = 9 ∧ 1 < b.toNat) ∨ (0 < 9 ∧ b.toNat = 0))) := hgood
            clear hgood
            have hgood := hgood2
            have hb1 : ¬ (1 : Int) < (b.toNat : Int) := by omega
            have hb0 : ((b.toNat : Int) == 0) = false := by rw [beq_eq_false_iff_ne]; omega
            have hb2 : (b.toNat : Int) < 128 := by omega
            have hz : Hid (rd0 L = some (n + b.toNat % 128 * 128 ^ 9, 10)) := Lib.hid (by
              rw [hrd.out, Rf.rd, if_neg (by omega), if_neg hgood.out, if_pos (by omega), Nat.mod_eq_of_lt (by omega)])
            have e1 : Hid (shN L = n + b.toNat % 128 * 128 ^ 9 ∧ shK L = ((10 : Nat) : Int)) := Lib.hid ⟨by rw [shN, hz.out], by rw [shK, hz.out]⟩
            clear hbad hgood2
            go_wp2
            go_ret2
            rw [e1.out.1, e1.out.2]
            exact ⟨congrArg (fun z => Ending.returned (.tuple #[.int .u64 z, .int .i64 ((10 : Nat) : Int)])) hor.out, rfl⟩
          · have h98 : ((i : Int) == 9) = false := by rw [beq_eq_false_iff_ne]; omega
            by_cases h0 : i = 0
            · have h00 : ¬ (0 : Int) < (i : Int) := by omega
              by_cases hb2 : (b.toNat : Int) < 128
              · have hz : Hid (rd0 L = some (n + b.toNat % 128 * 128 ^ i, i + 1)) := Lib.hid (by
                  rw [hrd.out, Rf.rd, if_neg (by omega), if_neg hgood.out, if_pos (by omega), Nat.mod_eq_of_lt (by omega)])
                have e1 : Hid (shN L = n + b.toNat % 128 * 128 ^ i ∧ shK L = ((i + 1 : Nat) : Int)) := Lib.hid ⟨by rw [shN, hz.out], by rw [shK, hz.out]⟩
                clear hbad h0 h9
                go_wp2
                go_ret2
                rw [e1.out.1, e1.out.2]
                exact ⟨congrArg (fun z => Ending.returned (.tuple #[.int .u64 z, .int .i64 (((i + 1 : Nat) : Int))])) hor.out, rfl⟩
              · have hz : Hid (rd0 L = Rf.rd (i + 1) (n + b.toNat % 128 * 128 ^ i) (L.drop (i + 1))) := Lib.hid (by
                  rw [hrd.out, Rf.rd, if_neg (by omega), if_neg hgood.out, if_neg (by omega), show b.toNat - 128 = b.toNat % 128 by omega])
                have hn2 := hadd.out
                clear hbad h0 h9
                go_wp2
                go_roundw
                case rel => exact ⟨i + 1, n + b.toNat % 128 * 128 ^ i, by omega, congrArg (Value.int .u64) hor.out, by simp, trivial, hn2.2, Lib.hid ⟨hn2.1, hz.out⟩⟩
                case measure => simp [RowKit.intOf]; omega
            · have h00 : (0 : Int) < (i : Int) := by omega
              have hb0 : ((b.toNat : Int) == 0) = false := by rw [beq_eq_false_iff_ne]; omega
              by_cases hb2 : (b.toNat : Int) < 128
              · have hz : Hid (rd0 L = some (n + b.toNat % 128 * 128 ^ i, i + 1)) := Lib.hid (by
                  rw [hrd.out, Rf.rd, if_neg (by omega), if_neg hgood.out, if_pos (by omega), Nat.mod_eq_of_lt (by omega)])
                have e1 : Hid (shN L = n + b.toNat % 128 * 128 ^ i ∧ shK L = ((i + 1 : Nat) : Int)) := Lib.hid ⟨by rw [shN, hz.out], by rw [shK, hz.out]⟩
                clear hbad h0 h9
                go_wp2
                go_ret2
                rw [e1.out.1, e1.out.2]
                exact ⟨congrArg (fun z => Ending.returned (.tuple #[.int .u64 z, .int .i64 (((i + 1 : Nat) : Int))])) hor.out, rfl⟩
              · have hz : Hid (rd0 L = Rf.rd (i + 1) (n + b.toNat % 128 * 128 ^ i) (L.drop (i + 1))) := Lib.hid (by
                  rw [hrd.out, Rf.rd, if_neg (by omega), if_neg hgood.out, if_neg (by omega), show b.toNat - 128 = b.toNat % 128 by omega])
                have hn2 := hadd.out
                clear hbad h0 h9
                go_wp2
                go_roundw
                case rel => exact ⟨i + 1, n + b.toNat % 128 * 128 ^ i, by omega, congrArg (Value.int .u64) hor.out, by simp, trivial, hn2.2, Lib.hid ⟨hn2.1, hz.out⟩⟩
                case measure => simp [RowKit.intOf]; omega
      · have hz : Hid (rd0 L = none) := Lib.hid (by
          rw [HR.out.2]
          obtain rfl : i = 10 := by omega
          exact rd_ten _ _)
        have e1 : Hid (shN L = 0 ∧ shK L = -1) := Lib.hid ⟨by rw [shN, hz.out], by rw [shK, hz.out]⟩
        go_wp2
        go_ret2
        rw [e1.out.1, e1.out.2]
        exact ⟨rfl, rfl⟩
end Go.Proofs.YtpbhkaokgpacoaaGreatDoor.Rd
