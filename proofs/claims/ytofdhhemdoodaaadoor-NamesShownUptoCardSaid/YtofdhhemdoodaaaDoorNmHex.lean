/-
  The library's strconv.FormatInt to the base 16, at numbers from 0 to 2^24 - 1.
-/
import Derived.Test.YtofdhhemdoodaaaDoorWords
import Derived.WalkSpells
import Derived.WalkLawsBesides
import Derived.Lib.Hide
import Derived.Lib.Strings
import Derived.Laws.BytesString
import Derived.Deep.LoopGhost
namespace Go.Proofs.YtofdhhemdoodaaaDoor.Nm
open Go.RowKit

/-- A digit to the base 16. -/
def hd (d : Nat) : UInt8 := UInt8.ofNat (if d < 10 then 48 + d else 87 + d)
/-- A number's digits to the base 16, at most six. -/
def hexF : Nat → Nat → List UInt8
  | 0, _ => []
  | f + 1, u => if u < 16 then [hd u] else hexF f (u / 16) ++ [hd (u % 16)]
def hex (u : Nat) : List UInt8 := hexF 6 u

theorem hexF_small (f u : Nat) (h : u < 16) : hexF (f + 1) u = [hd u] := by rw [hexF, if_pos h]
theorem hexF_step (f u : Nat) (h : ¬ u < 16) : hexF (f + 1) u = hexF f (u / 16) ++ [hd (u % 16)] := by rw [hexF, if_neg h]

/-- The one cell of the library's table that the walk reads. -/
def Tz (w : World) : Prop := w.cell? ⟨7, 15, none⟩ = some (.int .u8 4)
theorem Tz.below {w w' : World} (h : Tz w) (hb : Below w.heap.size w w') : Tz w' := by
  unfold Tz at *
  rw [hb.cell (p := ⟨7, 15, none⟩) (World.block_lt_of_cell? _ _ h)]; exact h

set_option maxHeartbeats 1000000 in
set_option maxRecDepth 100000 in
theorem tz64 (w : World) (h : Tz w) : Calls Tryd.prog 94 #[.int .u64 16] w fun e w' => e = .returned (.int .i64 4) ∧ w' = w := by
  unfold Tz at h
  have e1 : IntKind.u64.wrap (bits BinOp.and IntKind.u64 16 (IntKind.u64.wrap (-16)) * 285870213051353865) / 288230376151711744 = 15 := by decide +kernel
  go_enter Tryd.func94, Tryd.ntmps94
  go_wp2
  go_ret
  exact ⟨rfl, rfl⟩

set_option maxHeartbeats 1000000 in
set_option maxRecDepth 100000 in
theorem tz (w : World) (h : Tz w) : Calls Tryd.prog 87 #[.int .u64 16] w fun e w' => e = .returned (.int .i64 4) ∧ w' = w := by
  have h1 := tz64 w h
  have H := Lib.hid h1
  clear h1
  go_enter Tryd.func87, Tryd.ntmps87
  go_wp2_with fail
  refine H.out.mono ?_
  rintro e w1 ⟨rfl, rfl⟩
  go_wp2
  go_ret
  exact ⟨rfl, rfl⟩

set_option maxHeartbeats 1000000 in
set_option maxRecDepth 100000 in
theorem pow2 (w : World) : Calls Tryd.prog 86 #[.int .i64 16] w fun e w' => e = .returned (.bool true) ∧ w' = w := by
  go_enter Tryd.func86, Tryd.ntmps86
  go_wp2
  go_ret
  exact ⟨rfl, rfl⟩


/-- How great the number may be behind k rounds. -/
def lim : Nat → Nat
  | 0 => 16777216 | 1 => 1048576 | 2 => 65536 | 3 => 4096 | 4 => 256 | 5 => 16 | _ => 1

theorem lim_step {k q : Nat} (h : q < lim k) (hq : ¬ q < 16) : k ≤ 4 ∧ q / 16 < lim (k + 1) := by
  match k with
  | 0 => simp [lim] at *; omega
  | 1 => simp [lim] at *; omega
  | 2 => simp [lim] at *; omega
  | 3 => simp [lim] at *; omega
  | 4 => simp [lim] at *; omega
  | 5 => simp [lim] at *; omega
  | k + 6 => simp [lim] at *; omega

theorem lim_le {k q : Nat} (h : q < lim k) : q < 16777216 := by
  match k with
  | 0 => simp [lim] at h; omega
  | 1 => simp [lim] at h; omega
  | 2 => simp [lim] at h; omega
  | 3 => simp [lim] at h; omega
  | 4 => simp [lim] at h; omega
  | 5 => simp [lim] at h; omega
  | k + 6 => simp [lim] at h; omega

theorem setCell_heap (w : World) (g j : Nat) (v : Value) (cur : Array Value) (T : TypeId) (h : w.heap[g]? = some (.cells cur T)) :
    (w.setCell ⟨g, j, none⟩ v).heap[g]? = some (.cells (cur.setIfInBounds j v) T) := by
  simp [World.setCell, Array.getElem?_modify, h]
theorem cell_of_heap {w : World} {g j : Nat} {cur : Array Value} {T : TypeId} (h : w.heap[g]? = some (.cells cur T)) : w.cell? ⟨g, j, none⟩ = cur[j]? := by
  simp [World.cell?, h]
theorem frozen_of_heap {w : World} {g j : Nat} {cur : Array Value} {T : TypeId} (h : w.heap[g]? = some (.cells cur T)) : w.frozen? ⟨g, j, none⟩ = false := by
  simp [World.frozen?, h]

theorem and15 (q : Nat) (h : q < 16777216) : bits BinOp.and IntKind.u64 (q : Int) 15 = ((q % 16 : Nat) : Int) := by
  have h1 := bits_and_u64_nat q 15 (by omega) (by omega)
  rw [show (15 : Nat) = 2 ^ 4 - 1 from rfl, Nat.and_two_pow_sub_one_eq_mod] at h1
  exact h1

theorem zeros65 : Tryd.zeroCells98.size = 65 := by kernel_rfl

theorem hd_index (d : Nat) (h : d < 16) (h2 : d < (⟨#[48, 49, 50, 51, 52, 53, 54, 55, 56, 57, 97, 98, 99, 100, 101, 102, 103, 104, 105, 106, 107, 108, 109, 110, 111, 112, 113, 114, 115, 116, 117, 118, 119, 120, 121, 122]⟩ : ByteArray).size) :
    (⟨#[48, 49, 50, 51, 52, 53, 54, 55, 56, 57, 97, 98, 99, 100, 101, 102, 103, 104, 105, 106, 107, 108, 109, 110, 111, 112, 113, 114, 115, 116, 117, 118, 119, 120, 121, 122]⟩ : ByteArray)[d] = hd d := by
  match d, h, h2 with
  | 0, _, _ | 1, _, _ | 2, _, _ | 3, _, _ | 4, _, _ | 5, _, _ | 6, _, _ | 7, _, _ | 8, _, _ | 9, _, _ | 10, _, _ | 11, _, _ | 12, _, _ | 13, _, _ | 14, _, _ | 15, _, _ => rfl
  | n + 16, h, _ => exact absurd h (by omega)

theorem drop_set {cur : Array Value} {j : Nat} {T : List Value} (h : cur.toList.drop (j + 1) = T) (hj : j < cur.size) (v : Value) : (cur.setIfInBounds j v).toList.drop j = v :: T := by
  have e : (cur.setIfInBounds j v).toList = cur.toList.set j v := by simp
  rw [e, List.drop_eq_getElem_cons (by simpa using hj), List.drop_set_of_lt (by omega), h]
  simp

theorem arr98 : Tryd.prog.arrayLen 98 = 65 := by kernel_rfl
theorem und98 : Tryd.prog.underlying 98 = some (.array (Tryd.prog.arrayLen 98) (Tryd.prog.elem 98)) := by kernel_rfl
theorem elem98 : (Tryd.prog.info? (Tryd.prog.elem 98)).map (fun i => i.size) = some 1 := by kernel_rfl

theorem slice_tail (w : World) (b j : Nat) (hj : j < 65) :
    (Instr.sliceAt 98 (.pointer (some ⟨b, 0, none⟩)) (some (.int .i64 (j : Int))) none none).run Tryd.prog w = .ok (.slice (some ⟨b, j, none⟩) (65 - j) (65 - j)) w := by
  rw [run_sliceAt_array_l (P := Tryd.prog) w 98 ⟨b, 0, none⟩ und98 .i64 (j : Int) (by omega) (by rw [arr98]; omega)]
  obtain ⟨i, hi, hs⟩ := Option.map_eq_some_iff.1 elem98
  have hz : (sizeOf (Tryd.prog.elem 98)).run Tryd.prog w = .ok 1 w := by simp [sizeOf, typeInfo, hi, hs]
  rw [hz]
  simp only [Result.andThen, Int.toNat_natCast, arr98, slicedAt]
  rw [if_neg (by omega), Nat.mul_one, Addr.add_lit, Nat.zero_add]

theorem foldl_push (L : List UInt8) : ∀ r : ByteArray, (L.map fun c : UInt8 => (c.toNat : Int)).foldl (fun (r : ByteArray) n => r.push (UInt8.ofNat n.toNat)) r = ⟨r.data ++ L.toArray⟩ := by
  induction L with
  | nil => intro r; simp
  | cons c L ih => intro r; rw [List.map_cons, List.foldl_cons, ih]; simp [ByteArray.push]

/-- A row of bytes turned into a text. -/
theorem conv_bytes (w : World) (b j c : Nat) (cur : Array Value) (T : TypeId) (L : List UInt8) (h : w.heap[b]? = some (.cells cur T)) (hd : cur.toList.drop j = L.map (fun c => Value.int .u8 c.toNat)) :
    (convert 49 9 (.slice (some ⟨b, j, none⟩) L.length c)).run Tryd.prog w = .ok (.string ⟨L.toArray⟩) w := by
  rw [run_convert_bytes_string w 49 9 5 _ _ _ Tryd.underlying49 Tryd.underlying5 Tryd.underlying9]
  have hl : (loadCells ⟨b, j, none⟩ L.length).run Tryd.prog w = .ok ((L.map fun c : UInt8 => (c.toNat : Int)).map (Value.int .u8)).toArray w := by
    rw [run_loadCells w ⟨b, j, none⟩ L.length (fun i => .int .u8 ((L.map fun c : UInt8 => (c.toNat : Int)).getD i 0)) (fun i hi => ?_)]
    · congr 2
      apply List.ext_getElem
      · simp
      · intro i h1 h2
        simp at h1
        simp [List.getD, List.getElem?_eq_getElem h1]
    · rw [Addr.add_lit, cell_of_heap h]
      have := congrArg (fun l => l[i]?) hd
      simp only [List.getElem?_drop, List.getElem?_map, List.getElem?_eq_getElem hi, Option.map_some] at this
      rw [← Array.getElem?_toList, this]
      simp [List.getD, List.getElem?_eq_getElem hi]
  rw [run_bytesToString w _ _ _ _ hl, foldl_push]
  simp

set_option maxHeartbeats 2000000 in
set_option maxRecDepth 100000 in
theorem formatBits16 (u : Nat) (w : World) (hu : u < 16777216) (h : Tz w) :
    Calls Tryd.prog 72 #[.slice none 0 0, .int .u64 u, .int .i64 16, .bool false, .bool false] w fun e w' =>
      e = .returned (.tuple #[.slice none 0 0, .string ⟨(hex u).toArray⟩]) ∧ Below w.heap.size w w' := by
  have H1 := Lib.hid (fun w => pow2 w)
  go_enter Tryd.func72, Tryd.ntmps72
  go_wp2_with fail
  refine (H1.out _).mono ?_
  rintro e w1 ⟨rfl, hw1⟩
  obtain ⟨cur0, hc0, hs0⟩ : ∃ cur0 : Array Value, w1 = w.alloc (.cells cur0 98) ∧ cur0.size = 65 := ⟨_, hw1, zeros65⟩
  have hb1 : Below w.heap.size w w1 := hc0 ▸ (Below.refl _ _).alloc (Nat.le_refl _) _
  have hh1 : w1.heap[w.heap.size]? = some (.cells cur0 98) := by
    rw [hc0]; show (w.heap.push _)[w.heap.size]? = _; simp
  clear hw1 hc0
  go_wp2_with fail
  refine (tz _ (h.below hb1)).mono ?_
  rintro e w2 ⟨rfl, rfl⟩
  go_wp2
  go_loopg [1, 13] 6 (fun g s1 s13 wr => ∃ (q i : Nat) (cur : Array Value) (T : List UInt8), g = 6 - (65 - i) ∧ s1 = .int .u64 q ∧ s13 = .int .i64 i ∧ 60 ≤ i ∧ i ≤ 65 ∧ q < lim (65 - i) ∧ wr.heap[w.heap.size]? = some (.cells cur 98) ∧ cur.size = 65 ∧
    cur.toList.drop i = T.map (fun c => Value.int .u8 c.toNat) ∧ hex u = hexF (6 - (65 - i)) q ++ T ∧ Below w.heap.size w wr)
  case atStart => exact ⟨u, 65, cur0, [], rfl, rfl, rfl, by omega, by omega, hu, hh1, hs0, by rw [List.drop_eq_nil_of_le (by simp [hs0])]; rfl, by simp [hex], hb1⟩
  case round =>
    obtain ⟨q, i, cur, T, rfl, rfl, rfl, hi1, hi2, hql, hhr, hcs, hdr, hhx, hbw⟩ := hrel
    obtain ⟨j, rfl⟩ : ∃ j, i = j + 1 := ⟨i - 1, by omega⟩
    obtain ⟨x, hx⟩ : ∃ x, cur[j]? = some x := ⟨_, Array.getElem?_eq_getElem (by omega)⟩
    have hcell : wr.cell? ⟨w.heap.size, j, none⟩ = some x := by rw [cell_of_heap hhr]; exact hx
    have hfr : wr.frozen? ⟨w.heap.size, j, none⟩ = false := frozen_of_heap hhr
    by_cases hq : q < 16
    · have hsl := fun W => slice_tail W w.heap.size j (by omega)
      have hT : T.length = 64 - j := by
        have := congrArg List.length hdr
        simp only [List.length_drop, Array.length_toList, List.length_map, hcs] at this; omega
      have hhc := setCell_heap wr w.heap.size j (.int .u8 (hd q).toNat) cur _ hhr
      have hhd := drop_set hdr (by omega) (.int .u8 (hd q).toNat)
      have hcv := conv_bytes (wr.setCell ⟨w.heap.size, j, none⟩ (.int .u8 (hd q).toNat)) w.heap.size j (65 - j) _ _ (hd q :: T) hhc (by rw [hhd]; rfl)
      rw [show (hd q :: T).length = 65 - j by rw [List.length_cons, hT]; omega] at hcv
      have hfin : hd q :: T = hex u := by rw [hhx, show 6 - (65 - (j + 1)) = 5 - (64 - j) + 1 by omega, hexF_small _ _ hq]; rfl
      rw [hfin] at hcv
      have hdi := fun h2 => hd_index q hq h2
      have HR := Lib.hid hhr; have HD := Lib.hid hdr; have HX := Lib.hid hhx; have HCS := Lib.hid hcs; have HT := Lib.hid hT; have HF := Lib.hid hfin; have HHC := Lib.hid hhc; have HHD := Lib.hid hhd
      clear hhr hdr hhx hcs hx hT hfin hhc hhd
      go_wp2
      go_ret2
      exact ⟨rfl, hbw.setCell (Nat.le_refl _) _⟩
    · obtain ⟨hk4, hql2⟩ := lim_step hql hq
      have hq24 : q < 16777216 := lim_le hql
      have e15 := and15 q hq24
      have hq' : 16 ≤ q := by omega
      have HR := Lib.hid hhr; have HD := Lib.hid hdr; have HX := Lib.hid hhx; have HCS := Lib.hid hcs
      clear hhr hdr hhx hq hcs hx
      go_wp2
      go_roundg (6 - (65 - j))
      case rel =>
        refine ⟨q / 16, j, _, hd (q % 16) :: T, rfl, by simp, rfl, by omega, by omega, by rw [show 65 - j = 65 - (j + 1) + 1 by omega]; exact hql2, setCell_heap _ _ _ _ _ _ HR.out, by simpa using HCS.out, ?_, ?_, hbw.setCell (Nat.le_refl _) _⟩
        · rw [drop_set HD.out (by rw [HCS.out]; omega), hd_index (q % 16) (by omega)]; rfl
        · rw [HX.out, show 6 - (65 - (j + 1)) = 6 - (65 - j) + 1 by omega, hexF_step _ _ (by omega)]; simp
      case measure => omega

set_option maxHeartbeats 1000000 in
set_option maxRecDepth 100000 in
theorem formatInt16i (u : Nat) (w : World) (hu : u < 16777216) (h : Tz w) :
    Calls Tryd.prog 56 #[.int .i64 u, .int .i64 16] w fun e w' => e = .returned (.string ⟨(hex u).toArray⟩) ∧ Below w.heap.size w w' := by
  have h1 := formatBits16 u w hu h
  have H := Lib.hid h1
  clear h1
  go_enter Tryd.func56, Tryd.ntmps56
  go_wp2_with fail
  refine H.out.mono ?_
  rintro e w1 ⟨rfl, hb⟩
  go_wp2
  go_ret
  exact ⟨rfl, hb⟩

set_option maxHeartbeats 1000000 in
set_option maxRecDepth 100000 in
/-- **strconv.FormatInt(u, 16).** -/
theorem formatInt16 (u : Nat) (w : World) (hu : u < 16777216) (h : Tz w) :
    Calls Tryd.prog 38 #[.int .i64 u, .int .i64 16] w fun e w' => e = .returned (.string ⟨(hex u).toArray⟩) ∧ Below w.heap.size w w' := by
  have h1 := formatInt16i u w hu h
  have H := Lib.hid h1
  clear h1
  go_enter Tryd.func38, Tryd.ntmps38
  go_wp2_with fail
  refine H.out.mono ?_
  rintro e w1 ⟨rfl, hb⟩
  go_wp2
  go_ret
  exact ⟨rfl, hb⟩

theorem formatInt16z (x : Int) (w : World) (h0 : 0 ≤ x) (h1 : x < 16777216) (h : Tz w) :
    Calls Tryd.prog 38 #[.int .i64 x, .int .i64 16] w fun e w' => e = .returned (.string ⟨(hex x.toNat).toArray⟩) ∧ Below w.heap.size w w' := by
  obtain ⟨u, rfl⟩ := Int.eq_ofNat_of_zero_le h0
  exact formatInt16 u w (by omega) h
end Go.Proofs.YtofdhhemdoodaaaDoor.Nm
