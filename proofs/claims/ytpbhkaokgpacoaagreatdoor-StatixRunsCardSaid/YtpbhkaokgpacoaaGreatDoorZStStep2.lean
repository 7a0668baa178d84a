import Derived.Test.YtpbhkaokgpacoaaGreatDoorZStAppend
import Derived.Shelf.SlIter.Nil
import Derived.Shelf.SortM.Plain
import Derived.Shelf.SortM.SortNone
import Derived.RangeFuncStops
import Derived.Ground.GgzProg
import Derived.Ground.SlgmProg
import Derived.Test.YtpbhkaokgpacoaaGreatDoorProg
import Derived.Test.YtpbhkaokgpacoaaGreatDoorZStStrs
set_option linter.unusedSimpArgs false
set_option linter.unusedVariables false
/-
  Steps of a walk over rows of entries: a row of one, an append.
-/
namespace Go.Proofs.YtpbhkaokgpacoaaGreatDoor.St
open Go.RowKit Go.Maps Go.WideMaps Go.Proofs.YtpbhkaokgpacoaaGreatDoor.Rf

section
variable {P : Program} {ops : Array Oper} {rest : List Oper} {o : Oper} {a : Act} {w : World} {Q : Exit → Act → World → Prop}
theorem wpList_one (hgd : o.guard = none) (t e : TypeId) (x : Operand) (cs : List Value) (i : TypeInfo) (z : Value) (ho : o.op = .buildSlice t 1 #[(0, x)]) (hx : a.eval x = .agg cs.toArray)
    (ht : P.underlying t = some (.slice e)) (hi : P.info? e = some i) (hz : i.zero = some z) (hs : i.size = 38) (hl : cs.length = 38)
    (h : ∀ y w2, Holds w2 y 1 cs → w.grownBy w2 none → (∀ ad c, y = .slice (some ad) 1 c → ad.block = w.heap.size) → w.heap.size < w2.heap.size → wpList P ops Q rest (a.put o.dst y) w2) : wpList P ops Q (o :: rest) a w :=
  wpList_plain hgd fun _ hK => wp_one t e x cs i z ho hx ht hi hz hs hl (fun y w2 a b c d => hK _ _ (h y w2 a b c d))
theorem wpList_append38 (hgd : o.guard = none) (s x : Operand) (t : TypeId) (ho : o.op = .call { callee := .builtin .append, args := #[s, x], argTypes := #[t, t] })
    (base : Nat) (e : TypeId) (i : TypeInfo) (z : Value) (bytes : Nat) (ht : P.underlying t = some (.slice e)) (hi : P.info? e = some i) (hz : i.zero = some z)
    (hsize : i.size = 38) (hby : i.bytes = bytes) (hzs : z.cells.size = 38) (v : Value) (n : Nat) (xs : List Value) (hs : a.eval s = v) (hown : w.ownsRow base e 38 v n xs)
    (xv : Value) (m : Nat) (cs : List Value) (hxv : a.eval x = xv) (hx : Holds w xv m cs) (hl : cs.length = m * 38) (h1 : ∀ u ∈ cs, u.oneCell' = true) (h63 : n + m ≤ maxLen) (hbytes : (n + m) * bytes ≤ 140737488355328) (hbase : base ≤ w.heap.size)
    (h : ∀ v' w', w'.ownsRow base e 38 v' (n + m) (xs ++ cs) → w.grownBy w' v.ownBlock → (v'.ownBlock = v.ownBlock ∨ v'.ownBlock = some w.heap.size) → wpList P ops Q rest (a.put o.dst v') w') : wpList P ops Q (o :: rest) a w :=
  wpList_plain hgd fun _ hK => wp_append_holds s x t ho base e i z bytes ht hi hz hsize hby hzs v n xs hs hown xv m cs hxv hx hl h1 h63 hbytes hbase (fun v' w' a b c => hK _ _ (h v' w' a b c))
end
/-- Behind an append of one entry. -/
theorem take_cells {L : List SE} {k : Nat} {e : SE} (h : L[k]? = some e) : cellsS (L.take k) ++ e.cells = cellsS (L.take (k + 1)) := by
  rw [List.take_add_one, h, cellsS_append]
  show _ = cellsS (L.take k) ++ cellsS [e]
  rw [cellsS_cons]; simp [cellsS]
end Go.Proofs.YtpbhkaokgpacoaaGreatDoor.St
/-
  The shelf's contracts at this dump: what a tool of the kit printed, and those that it does not print yet.
-/
namespace Go.Proofs
open Go.RowKit Go.Maps Go.Sort Go.Shelf

def Tryz.keysL_ren : Go.Shelf.Ren := ⟨fun | 7 => 67 | 10 => 98 | n => n, fun | 23 => 90 | 26 => 9 | 3 => 44 | 28 => 142 | 0 => 0 | 27 => 141 | 33 => 168 | 4 => 4 | n => n, fun | n => n⟩
theorem Tryz.keysL : Go.Proofs.SlLaysZ.n7 Tryz.prog Tryz.keysL_ren := {
  mixed := by kernel_rfl
  f7 := ⟨Tryz.f67.name, by decide, Tryz.func67.trans (congrArg some (by kernel_rfl))⟩
  f10 := ⟨Tryz.f98.name, by decide, Tryz.func98.trans (congrArg some (by kernel_rfl))⟩
  t0 := Tryz.underlying0
  a0 := Tryz.isAgg0
  z0 := Tryz.sizeOf0
  v0 := Tryz.zeroValue0
  t4 := Tryz.underlying4
  a4 := Tryz.isAgg4
  z4 := Tryz.sizeOf4
  v4 := Tryz.zeroValue4
  t23 := Tryz.underlying90
  a23 := Tryz.isAgg90
  z23 := Tryz.sizeOf90
  v23 := Tryz.zeroValue90
  t26 := Tryz.underlying9
  a26 := Tryz.isAgg9
  z26 := Tryz.sizeOf9
  v26 := Tryz.zeroValue9
  t27 := Tryz.underlying141
  a27 := Tryz.isAgg141
  z27 := Tryz.sizeOf141
  v27 := Tryz.zeroValue141
  t28 := Tryz.underlying142
  a28 := Tryz.isAgg142
  z28 := Tryz.sizeOf142
  v28 := Tryz.zeroValue142
  t33 := Tryz.underlying168
  a33 := Tryz.isAgg168
  z33 := Tryz.sizeOf168
  v33 := Tryz.zeroValue168 }
def Tryz.sortedL_ren : Go.Shelf.Ren := ⟨fun | 6 => 66 | 8 => 96 | 9 => 97 | 11 => 122 | 13 => 124 | 12 => 123 | 23 => 146 | 24 => 147 | 14 => 137 | 15 => 138 | 16 => 139 | 17 => 140 | 18 => 141 | 19 => 142 | 20 => 143 | 21 => 144 | 22 => 145 | 25 => 156 | 26 => 157 | 27 => 158 | 28 => 159 | 29 => 160 | 30 => 161 | 31 => 164 | n => n, fun | 26 => 9 | 28 => 142 | 24 => 34 | 0 => 0 | 3 => 3 | 37 => 154 | 48 => 126 | 50 => 31 | 4 => 4 | 40 => 210 | 39 => 209 | 45 => 86 | 5 => 5 | 9 => 9 | 51 => 219 | 55 => 223 | 57 => 227 | 58 => 228 | 33 => 168 | n => n, fun | n => n⟩
theorem Tryz.sortedL : Go.Proofs.SlLaysZ.n6 Tryz.prog Tryz.sortedL_ren := {
  mixed := by kernel_rfl
  f6 := ⟨Tryz.f66.name, by decide, Tryz.func66.trans (congrArg some (by kernel_rfl))⟩
  f8 := ⟨Tryz.f96.name, by decide, Tryz.func96.trans (congrArg some (by kernel_rfl))⟩
  f11 := ⟨Tryz.f122.name, by decide, Tryz.func122.trans (congrArg some (by kernel_rfl))⟩
  t0 := Tryz.underlying0
  a0 := Tryz.isAgg0
  z0 := Tryz.sizeOf0
  v0 := Tryz.zeroValue0
  t24 := Tryz.underlying34
  a24 := Tryz.isAgg34
  z24 := Tryz.sizeOf34
  v24 := Tryz.zeroValue34
  t26 := Tryz.underlying9
  a26 := Tryz.isAgg9
  z26 := Tryz.sizeOf9
  v26 := Tryz.zeroValue9
  t28 := Tryz.underlying142
  a28 := Tryz.isAgg142
  z28 := Tryz.sizeOf142
  v28 := Tryz.zeroValue142
  i26 := by kernel_rfl }
def Tryz.sortL_ren : Go.Shelf.Ren := ⟨fun | 6 => 97 | 8 => 124 | 9 => 123 | 19 => 146 | 20 => 147 | 21 => 137 | 22 => 138 | 23 => 139 | 24 => 140 | 25 => 141 | 26 => 142 | 27 => 143 | 28 => 144 | 29 => 145 | 36 => 156 | 31 => 157 | 32 => 158 | 37 => 159 | 38 => 160 | 39 => 161 | 41 => 164 | n => n, fun | 27 => 34 | 29 => 9 | 3 => 3 | 32 => 154 | 26 => 34 | 0 => 0 | 44 => 126 | 46 => 31 | 4 => 4 | 36 => 210 | 35 => 209 | 41 => 86 | 5 => 5 | 9 => 9 | 53 => 219 | 57 => 223 | 63 => 227 | 64 => 228 | n => n, fun | n => n⟩
theorem Tryz.sortL : Go.Proofs.SlLaysM.n6 Tryz.prog Tryz.sortL_ren := {
  mixed := by kernel_rfl
  f6 := ⟨Tryz.f97.name, by decide, Tryz.func97.trans (congrArg some (by kernel_rfl))⟩
  f8 := Tryz.func124.trans (congrArg some (by kernel_rfl))
  f9 := ⟨Tryz.f123.name, by decide, Tryz.func123.trans (congrArg some (by kernel_rfl))⟩
  f19 := Tryz.func146.trans (congrArg some (by kernel_rfl))
  f20 := Tryz.func147.trans (congrArg some (by kernel_rfl))
  f21 := ⟨Tryz.f137.name, by decide, Tryz.func137.trans (congrArg some (by kernel_rfl))⟩
  f22 := ⟨Tryz.f138.name, by decide, Tryz.func138.trans (congrArg some (by kernel_rfl))⟩
  f23 := ⟨Tryz.f139.name, by decide, Tryz.func139.trans (congrArg some (by kernel_rfl))⟩
  f24 := ⟨Tryz.f140.name, by decide, Tryz.func140.trans (congrArg some (by kernel_rfl))⟩
  f25 := ⟨Tryz.f141.name, by decide, Tryz.func141.trans (congrArg some (by kernel_rfl))⟩
  f26 := ⟨Tryz.f142.name, by decide, Tryz.func142.trans (congrArg some (by kernel_rfl))⟩
  f27 := ⟨Tryz.f143.name, by decide, Tryz.func143.trans (congrArg some (by kernel_rfl))⟩
  f28 := ⟨Tryz.f144.name, by decide, Tryz.func144.trans (congrArg some (by kernel_rfl))⟩
  f29 := ⟨Tryz.f145.name, by decide, Tryz.func145.trans (congrArg some (by kernel_rfl))⟩
  f31 := Tryz.func157.trans (congrArg some (by kernel_rfl))
  f32 := Tryz.func158.trans (congrArg some (by kernel_rfl))
  f36 := ⟨Tryz.f156.name, by decide, Tryz.func156.trans (congrArg some (by kernel_rfl))⟩
  f37 := ⟨Tryz.f159.name, by decide, Tryz.func159.trans (congrArg some (by kernel_rfl))⟩
  f38 := ⟨Tryz.f160.name, by decide, Tryz.func160.trans (congrArg some (by kernel_rfl))⟩
  f39 := ⟨Tryz.f161.name, by decide, Tryz.func161.trans (congrArg some (by kernel_rfl))⟩
  f41 := ⟨Tryz.f164.name, by decide, Tryz.func164.trans (congrArg some (by kernel_rfl))⟩
  t0 := Tryz.underlying0
  a0 := Tryz.isAgg0
  z0 := Tryz.sizeOf0
  v0 := Tryz.zeroValue0
  t3 := Tryz.underlying3
  a3 := Tryz.isAgg3
  z3 := Tryz.sizeOf3
  v3 := Tryz.zeroValue3
  t4 := Tryz.underlying4
  a4 := Tryz.isAgg4
  z4 := Tryz.sizeOf4
  v4 := Tryz.zeroValue4
  t5 := Tryz.underlying5
  a5 := Tryz.isAgg5
  z5 := Tryz.sizeOf5
  v5 := Tryz.zeroValue5
  t9 := Tryz.underlying9
  a9 := Tryz.isAgg9
  z9 := Tryz.sizeOf9
  v9 := Tryz.zeroValue9
  t26 := Tryz.underlying34
  a26 := Tryz.isAgg34
  z26 := Tryz.sizeOf34
  v26 := Tryz.zeroValue34
  t27 := Tryz.underlying34
  a27 := Tryz.isAgg34
  z27 := Tryz.sizeOf34
  v27 := Tryz.zeroValue34
  t29 := Tryz.underlying9
  a29 := Tryz.isAgg9
  z29 := Tryz.sizeOf9
  v29 := Tryz.zeroValue9
  t32 := Tryz.underlying154
  a32 := Tryz.isAgg154
  z32 := Tryz.sizeOf154
  v32 := Tryz.zeroValue154
  t35 := Tryz.underlying209
  a35 := Tryz.isAgg209
  z35 := Tryz.sizeOf209
  v35 := Tryz.zeroValue209
  t36 := Tryz.underlying210
  a36 := Tryz.isAgg210
  z36 := Tryz.sizeOf210
  v36 := Tryz.zeroValue210
  t41 := Tryz.underlying86
  a41 := Tryz.isAgg86
  z41 := Tryz.sizeOf86
  v41 := Tryz.zeroValue86
  t44 := Tryz.underlying126
  a44 := Tryz.isAgg126
  z44 := Tryz.sizeOf126
  v44 := Tryz.zeroValue126
  t46 := Tryz.underlying31
  a46 := Tryz.isAgg31
  z46 := Tryz.sizeOf31
  v46 := Tryz.zeroValue31
  t53 := Tryz.underlying219
  a53 := Tryz.isAgg219
  z53 := Tryz.sizeOf219
  v53 := Tryz.zeroValue219
  t57 := Tryz.underlying223
  a57 := Tryz.isAgg223
  z57 := Tryz.sizeOf223
  v57 := Tryz.zeroValue223
  t63 := Tryz.underlying227
  a63 := Tryz.isAgg227
  z63 := Tryz.sizeOf227
  v63 := Tryz.zeroValue227
  t64 := Tryz.underlying228
  a64 := Tryz.isAgg228
  z64 := Tryz.sizeOf228
  v64 := Tryz.zeroValue228 }

theorem Tryz.sortsL (m : Nat) : AnyZ.SortsIn Tryz.prog Tryz.sortedL_ren Fence.wide m :=
  ⟨fun blk off cap ss W hH hblk hsz => callsIn_wide.2 (AnyM.slices_Sort_string Tryz.sortL blk off cap ss W hH hblk hsz),
   fun p cap W => callsIn_wide.2 (AnyM.slices_Sort_string_none Tryz.sortL p cap W)⟩

/-- maps.Keys at a book's map. -/
theorem Tryz.keys (mb : Option Nat) (W : World) : Calls Tryz.prog 67 #[.map mb] W fun e w' => e = .returned (.func (.func 98) #[] #[.pointer (some ⟨W.heap.size, 0, none⟩)]) ∧ w' = W.alloc (.cells #[.map mb] 90) :=
  (callsIn_wide (n := 5)).1 (AnyZ.keys_in Tryz.keysL Fence.wide 5 trivial rfl mb W)

set_option maxHeartbeats 1000000 in
theorem Tryz.sortedKeys {H : Type} (b nn : Nat) (D0 : DataW H) (R : Value → Option (DataW H × List MemPlace)) (w : World) (hown : w.ownsMap Tryz.prog 9 R b nn D0) (hmax : Maps.size D0 ≤ maxLen) (hbytes : Maps.size D0 * 16 ≤ 140737488355328) :
    Calls Tryz.prog 66 #[.func (.func 98) #[] #[.pointer (some ⟨w.heap.size, 0, none⟩)]] (w.alloc (.cells #[.map (some b)] 90)) fun e w' => ∃ (v : Value) (ss : List (List UInt8)), e = .returned v ∧ ss.Perm (strKeys D0) ∧
      w'.ownsRow (w.alloc (.cells #[.map (some b)] 90)).heap.size 9 1 v ss.length ((ss.mergeSort (fun x y => decide (x ≤ y))).map encStr) ∧ (v = .slice none 0 0 ↔ ss = []) ∧ Below (w.alloc (.cells #[.map (some b)] 90)).heap.size (w.alloc (.cells #[.map (some b)] 90)) w' := by
  have hbl := hown.lt
  have hseq : SeqGives Fence.wide 2 Tryz.prog 98 #[.pointer (some ⟨w.heap.size, 0, none⟩)] encStr (fun ss => ss.Perm (strKeys D0)) (Maps.size D0) (w.alloc (.cells #[.map (some b)] 90)) :=
    AnyZ.keys_gives (ρ := Tryz.keysL_ren) { Tryz.keysL with } Fence.wide _ trivial rfl (by omega) w.heap.size b nn D0 _ (by simp) (by simp) (by
      obtain ⟨es, clock, hb, Ft, hs, hD⟩ := hown
      exact ⟨es, clock, (Below.heap_alloc _ _ b hbl).trans hb, Ft, hs, hD⟩)
  exact (callsIn_wide (n := 5)).1 (AnyZ.sorted_in Tryz.sortedL Fence.wide 5 trivial trivial trivial trivial rfl (by omega) (Tryz.sortsL _) (enters_of Tryz.func97 (by kernel_rfl) rfl) 98 #[.pointer (some ⟨w.heap.size, 0, none⟩)] trivial (enters_of Tryz.func98 (by kernel_rfl) rfl) _ _ hmax hbytes _ hseq)
end Go.Proofs
/-
  The contract of the program's All.
-/
namespace Go.Proofs.YtpbhkaokgpacoaaGreatDoor.St
open Go.RowKit Go.Maps Go.WideMaps Go.Proofs.YtpbhkaokgpacoaaGreatDoor.Rf Go.Proofs.YtpbhkaokgpacoaaGreatDoor.Rd

theorem strKeys_toD {α : Type} (enc : α → Value) (m : MV α) : strKeys (toD enc m) = m.map (·.1) := by
  show (m.map fun p => ((Lit.string p.1, DataW.held (enc p.2)) : Lit × DataW Value)).map (fun p => strOf p.1) = _
  rw [List.map_map]; rfl
theorem keys_sorted {L : List SE} (hs : Srt L) {ss : List (List UInt8)} (h : ss.Perm (strKeys (toD enV (toZ L)))) : ss.mergeSort (fun x y => decide (x ≤ y)) = L.map (·.path) := by
  rw [strKeys_toD, toZ_keys] at h
  rw [mergeSort_of_perm h, srt_sort hs]
theorem ss_len {L : List SE} (hs : Srt L) {ss : List (List UInt8)} (h : ss.Perm (strKeys (toD enV (toZ L)))) : ss.length = L.length := by
  have e1 := congrArg List.length (keys_sorted hs h)
  rw [List.length_mergeSort, List.length_map] at e1; exact e1
/-- What All leaves. -/
def AllPost (w : World) (L : List SE) (e : Ending) (w' : World) : Prop :=
  ∃ v, e = .returned v ∧ w'.ownsRow w.heap.size 44 38 v L.length (cellsS L) ∧ Below w.heap.size w w'

set_option maxHeartbeats 8000000 in
set_option maxRecDepth 100000 in
theorem all_any (B : Nat) (w : World) (g b : Nat) (L : List SE) (h : IndexAt B w g b L) :
    Calls Tryz.prog 35 #[ptr g] w (AllPost w L) := by
  have c0 : w.cell? ⟨g, 0, none⟩ = some (.map (some b)) := cell_of_heap h.book
  have hll := h.len
  have hlen := h.map.len Tryz.underlying90
  simp only [toD_size, toZ_length] at hlen
  obtain ⟨i0, hi0, hz0, hz1, hz2⟩ := info_parts infoZ
  have hz3 : (enV zeroS).cells.size = 38 := by kernel_rfl
  obtain ⟨w1, hmk, ho1, hg1⟩ := run_make_own (P := Tryz.prog) w w.heap.size 81 44 i0 (enV zeroS) 38 Tryz.underlying81 hi0 hz0 hz1 .i64 .i64 L.length (by rw [hz2]; omega) (by unfold maxLen; omega) (Nat.le_refl _)
  have hb1 : Below w.heap.size w w1 := (Below.refl _ _).grown hg1 (Nat.le_refl _) (fun k hk => nomatch hk)
  have hw1 : w.heap.size < w1.heap.size := rowS_lt ho1 w.heap.size (by simp [ob, Value.ownBlock])
  have h1 := h.below hb1
  have c1 : w1.cell? ⟨g, 0, none⟩ = some (.map (some b)) := cell_of_heap h1.book
  have KE := Lib.hid (Tryz.keys (some b) w1)
  have SK := Lib.hid (Tryz.sortedKeys b 1000000 _ _ w1 h1.map (by rw [toD_size, toZ_length]; unfold maxLen; omega) (by rw [toD_size, toZ_length]; omega))
  have H := Lib.hid h; have HB1 := Lib.hid hb1; have HO1 := Lib.hid ho1; have HW1 := Lib.hid hw1
  have HFT := Lib.hid h.fits
  clear h h1 hb1 ho1 hg1 hw1
  unfold ptr
  go_enter Tryz.func35, Tryz.ntmps35
  go_wp2_with (first
    | (go_at_call 67; refine KE.out.mono ?_; rintro e w2 ⟨rfl, rfl⟩)
    | (go_at_call 66; refine SK.out.mono ?_; rintro e w3 ⟨nv, ss, rfl, hp, ho, _, hb⟩; rw [keys_sorted H.out.srt hp, ss_len H.out.srt hp] at ho; obtain ⟨na, nc, rfl⟩ := rowS_slice ho; have HO := Lib.hid ho; have HB := Lib.hid hb; clear hp ho hb))
  have HB3 : Hid (Below w.heap.size w w3) := Lib.hid ((HB1.out.alloc HB1.out.size _).trans (HB.out.mono (by rw [one_size]; have := HW1.out; omega)))
  have HO3 : Hid (w3.ownsRow w.heap.size 44 38 (.slice (some ⟨w.heap.size, 0, none⟩) 0 L.length) 0 []) := Lib.hid (rowS_kept HO1.out (fun x hx hl => (HB.out.block x (by rw [one_size]; omega)).trans (Below.heap_alloc _ _ _ hl)))
  have HN : Hid (∀ q, (.slice na L.length nc : Value).ownBlock = some q → w1.heap.size < q) := Lib.hid (fun q hq => by have := rowS_ge HO.out q (by simp [ob, hq]); rw [one_size] at this; omega)
  have HNM := Lib.hid (row_mono HO.out (Nat.zero_le _))
  clear SK KE hmk HO HB HO1 hlen c0 c1
  go_loopw [3, 21] (fun v3 v21 wr => ∃ k : Nat, k ≤ L.length ∧ v21 = .int .i64 k ∧ Hid (wr.ownsRow w.heap.size 44 38 v3 k (cellsS (L.take k))) ∧ Hid (Below w.heap.size w wr) ∧ Hid (wr.ownsRow 0 9 1 (.slice na L.length nc) L.length ((L.map (·.path)).map encStr)) ∧ Hid (∀ q r, v3.ownBlock = some q → (.slice na L.length nc : Value).ownBlock = some r → q ≠ r)) (fun _ v21 _ => L.length - (RowKit.intOf v21).toNat)
  case atStart => exact ⟨0, by omega, rfl, HO3, HB3, HNM, Lib.hid (fun q r hq hr => by have := HN.out r hr; have hq : some w.heap.size = some q := hq; injection hq with hq; have := HB1.out.size; omega)⟩
  case round =>
    obtain ⟨k, hk, rfl, HR, HBR, HNR, HD⟩ := hrel
    by_cases hkl : (k : Int) < (L.length : Int)
    · have hk2 : k < L.length := by omega
      obtain ⟨e, he⟩ : ∃ e, L[k]? = some e := ⟨_, List.getElem?_eq_getElem hk2⟩
      have hem := List.mem_of_getElem? he
      obtain ⟨gn, cap, hnv, hgn, _, _, hcell⟩ := rowS_form HNR.out (by omega)
      injection hnv with e1 e2 e3
      subst e1 e3
      have cn : wr.cell? ⟨gn, k, none⟩ = some (.string ⟨e.path.toArray⟩) := hcell k _ (by rw [List.getElem?_map, List.getElem?_map, he]; rfl)
      have HIX := Lib.hid (H.out.below HBR.out)
      have cg : wr.cell? ⟨g, 0, none⟩ = some (.map (some b)) := cell_of_heap HIX.out.book
      have hpl := (HFT.out e hem).path
      have hlk : (getL (⟨e.path.toArray⟩ : ByteArray).data.toList L) = some e := by rw [ba_data]; exact getL_mem H.out.srt hem
      have HLK := Lib.hid hlk
      have HPZ : Hid ((⟨e.path.toArray⟩ : ByteArray).size ≤ maxLen) := Lib.hid (by show e.path.length ≤ _; unfold maxLen; omega)
      have HE38 : Hid (e.cells.length = 38) := Lib.hid (cells_size (HFT.out e hem).id)
      have HTK := Lib.hid (take_cells he)
      clear hlk hcell hem he hpl
      go_wp2_with (first
        | (refine wpList_look1 HIX.out rfl _ _ rfl rfl ⟨e.path.toArray⟩ rfl HPZ.out ?_; rw [HLK.out]; dsimp only [Option.getD])
        | (refine wpList_one rfl 81 44 (.tmp 31) e.cells i0 _ rfl rfl Tryz.underlying81 hi0 hz0 hz1 HE38.out ?_
           intro y w4 hh4 hg4 hy4 hs4
           have HH4 := Lib.hid hh4; have HG4 := Lib.hid hg4; have HY4 := Lib.hid hy4; have HS4 := Lib.hid hs4
           clear hh4 hg4 hy4 hs4)
        | (refine wpList_append38 rfl _ _ 81 rfl w.heap.size 44 i0 _ 88 Tryz.underlying81 hi0 hz0 hz1 hz2 hz3 u3 k (cellsS (L.take k)) rfl (rowS_kept HR.out (fun x _ hl => HG4.out.block x hl (fun h => nomatch h))) _ 1 e.cells rfl HH4.out (by rw [HE38.out]) (cells_one e) (by unfold maxLen; omega) (by omega) (by have := HBR.out.size; have := HS4.out; omega) ?_
           intro v5 w5 ho5 hg5 hv5
           have HO5 := Lib.hid ho5; have HG5 := Lib.hid hg5; have HV5 := Lib.hid hv5
           clear ho5 hg5 hv5))
      go_roundw
      case rel =>
        have hb4 : Below w.heap.size w w4 := HBR.out.grown HG4.out HBR.out.size (fun k hk => nomatch hk)
        refine ⟨k + 1, by omega, by go_num, Lib.hid ?_, Lib.hid ?_, Lib.hid ?_, Lib.hid ?_⟩
        · rw [← HTK.out]; exact HO5.out
        · exact hb4.grown HG5.out hb4.size (fun x hx => rowS_ge HR.out x (by simp [ob, hx]))
        · refine rowS_kept (rowS_kept HNR.out (fun x _ hl => HG4.out.block x hl (fun h => nomatch h))) (fun x hx hl => HG5.out.block x hl (fun h => ?_))
          have hx1 : x = gn := by simpa [ob, Value.ownBlock] using hx
          have hx : some gn = some x := congrArg some hx1.symm
          exact HD.out x x h.symm hx rfl
        · intro q r hq hr
          rcases HV5.out with hv | hv
          · exact HD.out q r (hv ▸ hq) hr
          · rw [hq] at hv; injection hv with hv
            have hr : some gn = some r := hr
            injection hr with hr
            have := HG4.out.size
            omega
      case measure => simp [RowKit.intOf]; omega
    · obtain rfl : k = L.length := by omega
      have HR2 := HR.out
      rw [List.take_length] at HR2
      go_wp2
      go_ret
      exact ⟨_, rfl, HR2, HBR.out⟩
end Go.Proofs.YtpbhkaokgpacoaaGreatDoor.St
