import Derived.Shelf.SlIter.Nil
import Derived.Shelf.SortM.Plain
import Derived.Shelf.SortM.SortNone
import Derived.RangeFuncStops
import Derived.Ground.GgzProg
import Derived.Ground.SlgmProg
import Derived.Test.YthcjjekkjbidlaaDoorProg
set_option linter.unusedSimpArgs false
set_option linter.unusedVariables false
/-
  The shelf's contracts at this dump: the sorted names of a folder.
-/
namespace Go.Proofs
open Go.RowKit Go.Maps Go.Sort Go.Shelf

def Tryd.keysLT_ren : Go.Shelf.Ren := ⟨fun | 7 => 59 | 10 => 73 | n => n, fun | 23 => 94 | 26 => 9 | 3 => 89 | 28 => 117 | 0 => 0 | 27 => 116 | 33 => 137 | 4 => 4 | n => n, fun | n => n⟩
theorem Tryd.keysLT : Go.Proofs.SlLaysZ.n7 Tryd.prog Tryd.keysLT_ren := {
  mixed := by kernel_rfl
  f7 := ⟨Tryd.f59.name, by decide, Tryd.func59.trans (congrArg some (by kernel_rfl))⟩
  f10 := ⟨Tryd.f73.name, by decide, Tryd.func73.trans (congrArg some (by kernel_rfl))⟩
  t0 := Tryd.underlying0
  a0 := Tryd.isAgg0
  z0 := Tryd.sizeOf0
  v0 := Tryd.zeroValue0
  t4 := Tryd.underlying4
  a4 := Tryd.isAgg4
  z4 := Tryd.sizeOf4
  v4 := Tryd.zeroValue4
  t23 := Tryd.underlying94
  a23 := Tryd.isAgg94
  z23 := Tryd.sizeOf94
  v23 := Tryd.zeroValue94
  t26 := Tryd.underlying9
  a26 := Tryd.isAgg9
  z26 := Tryd.sizeOf9
  v26 := Tryd.zeroValue9
  t27 := Tryd.underlying116
  a27 := Tryd.isAgg116
  z27 := Tryd.sizeOf116
  v27 := Tryd.zeroValue116
  t28 := Tryd.underlying117
  a28 := Tryd.isAgg117
  z28 := Tryd.sizeOf117
  v28 := Tryd.zeroValue117
  t33 := Tryd.underlying137
  a33 := Tryd.isAgg137
  z33 := Tryd.sizeOf137
  v33 := Tryd.zeroValue137 }
def Tryd.sortedLT_ren : Go.Shelf.Ren := ⟨fun | 6 => 58 | 8 => 71 | 9 => 72 | 11 => 86 | 13 => 88 | 12 => 87 | 23 => 106 | 24 => 107 | 14 => 97 | 15 => 98 | 16 => 99 | 17 => 100 | 18 => 101 | 19 => 102 | 20 => 103 | 21 => 104 | 22 => 105 | 25 => 112 | 26 => 113 | 27 => 114 | 28 => 115 | 29 => 116 | 30 => 117 | 31 => 123 | n => n, fun | 26 => 9 | 28 => 117 | 24 => 55 | 0 => 0 | 3 => 3 | 37 => 144 | 48 => 39 | 50 => 23 | 4 => 4 | 40 => 157 | 39 => 156 | 45 => 132 | 5 => 5 | 9 => 9 | 51 => 167 | 55 => 171 | 57 => 176 | 58 => 177 | 33 => 137 | n => n, fun | n => n⟩
theorem Tryd.sortedLT : Go.Proofs.SlLaysZ.n6 Tryd.prog Tryd.sortedLT_ren := {
  mixed := by kernel_rfl
  f6 := ⟨Tryd.f58.name, by decide, Tryd.func58.trans (congrArg some (by kernel_rfl))⟩
  f8 := ⟨Tryd.f71.name, by decide, Tryd.func71.trans (congrArg some (by kernel_rfl))⟩
  f11 := ⟨Tryd.f86.name, by decide, Tryd.func86.trans (congrArg some (by kernel_rfl))⟩
  t0 := Tryd.underlying0
  a0 := Tryd.isAgg0
  z0 := Tryd.sizeOf0
  v0 := Tryd.zeroValue0
  t24 := Tryd.underlying55
  a24 := Tryd.isAgg55
  z24 := Tryd.sizeOf55
  v24 := Tryd.zeroValue55
  t26 := Tryd.underlying9
  a26 := Tryd.isAgg9
  z26 := Tryd.sizeOf9
  v26 := Tryd.zeroValue9
  t28 := Tryd.underlying117
  a28 := Tryd.isAgg117
  z28 := Tryd.sizeOf117
  v28 := Tryd.zeroValue117
  i26 := by kernel_rfl }
def Tryd.sortLT_ren : Go.Shelf.Ren := ⟨fun | 6 => 72 | 8 => 88 | 9 => 87 | 19 => 106 | 20 => 107 | 21 => 97 | 22 => 98 | 23 => 99 | 24 => 100 | 25 => 101 | 26 => 102 | 27 => 103 | 28 => 104 | 29 => 105 | 36 => 112 | 31 => 113 | 32 => 114 | 37 => 115 | 38 => 116 | 39 => 117 | 41 => 123 | n => n, fun | 27 => 55 | 29 => 9 | 3 => 3 | 32 => 144 | 26 => 55 | 0 => 0 | 44 => 39 | 46 => 23 | 4 => 4 | 36 => 157 | 35 => 156 | 41 => 132 | 5 => 5 | 9 => 9 | 53 => 167 | 57 => 171 | 63 => 176 | 64 => 177 | n => n, fun | n => n⟩
theorem Tryd.sortLT : Go.Proofs.SlLaysM.n6 Tryd.prog Tryd.sortLT_ren := {
  mixed := by kernel_rfl
  f6 := ⟨Tryd.f72.name, by decide, Tryd.func72.trans (congrArg some (by kernel_rfl))⟩
  f8 := Tryd.func88.trans (congrArg some (by kernel_rfl))
  f9 := ⟨Tryd.f87.name, by decide, Tryd.func87.trans (congrArg some (by kernel_rfl))⟩
  f19 := Tryd.func106.trans (congrArg some (by kernel_rfl))
  f20 := Tryd.func107.trans (congrArg some (by kernel_rfl))
  f21 := ⟨Tryd.f97.name, by decide, Tryd.func97.trans (congrArg some (by kernel_rfl))⟩
  f22 := ⟨Tryd.f98.name, by decide, Tryd.func98.trans (congrArg some (by kernel_rfl))⟩
  f23 := ⟨Tryd.f99.name, by decide, Tryd.func99.trans (congrArg some (by kernel_rfl))⟩
  f24 := ⟨Tryd.f100.name, by decide, Tryd.func100.trans (congrArg some (by kernel_rfl))⟩
  f25 := ⟨Tryd.f101.name, by decide, Tryd.func101.trans (congrArg some (by kernel_rfl))⟩
  f26 := ⟨Tryd.f102.name, by decide, Tryd.func102.trans (congrArg some (by kernel_rfl))⟩
  f27 := ⟨Tryd.f103.name, by decide, Tryd.func103.trans (congrArg some (by kernel_rfl))⟩
  f28 := ⟨Tryd.f104.name, by decide, Tryd.func104.trans (congrArg some (by kernel_rfl))⟩
  f29 := ⟨Tryd.f105.name, by decide, Tryd.func105.trans (congrArg some (by kernel_rfl))⟩
  f31 := Tryd.func113.trans (congrArg some (by kernel_rfl))
  f32 := Tryd.func114.trans (congrArg some (by kernel_rfl))
  f36 := ⟨Tryd.f112.name, by decide, Tryd.func112.trans (congrArg some (by kernel_rfl))⟩
  f37 := ⟨Tryd.f115.name, by decide, Tryd.func115.trans (congrArg some (by kernel_rfl))⟩
  f38 := ⟨Tryd.f116.name, by decide, Tryd.func116.trans (congrArg some (by kernel_rfl))⟩
  f39 := ⟨Tryd.f117.name, by decide, Tryd.func117.trans (congrArg some (by kernel_rfl))⟩
  f41 := ⟨Tryd.f123.name, by decide, Tryd.func123.trans (congrArg some (by kernel_rfl))⟩
  t0 := Tryd.underlying0
  a0 := Tryd.isAgg0
  z0 := Tryd.sizeOf0
  v0 := Tryd.zeroValue0
  t3 := Tryd.underlying3
  a3 := Tryd.isAgg3
  z3 := Tryd.sizeOf3
  v3 := Tryd.zeroValue3
  t4 := Tryd.underlying4
  a4 := Tryd.isAgg4
  z4 := Tryd.sizeOf4
  v4 := Tryd.zeroValue4
  t5 := Tryd.underlying5
  a5 := Tryd.isAgg5
  z5 := Tryd.sizeOf5
  v5 := Tryd.zeroValue5
  t9 := Tryd.underlying9
  a9 := Tryd.isAgg9
  z9 := Tryd.sizeOf9
  v9 := Tryd.zeroValue9
  t26 := Tryd.underlying55
  a26 := Tryd.isAgg55
  z26 := Tryd.sizeOf55
  v26 := Tryd.zeroValue55
  t27 := Tryd.underlying55
  a27 := Tryd.isAgg55
  z27 := Tryd.sizeOf55
  v27 := Tryd.zeroValue55
  t29 := Tryd.underlying9
  a29 := Tryd.isAgg9
  z29 := Tryd.sizeOf9
  v29 := Tryd.zeroValue9
  t32 := Tryd.underlying144
  a32 := Tryd.isAgg144
  z32 := Tryd.sizeOf144
  v32 := Tryd.zeroValue144
  t35 := Tryd.underlying156
  a35 := Tryd.isAgg156
  z35 := Tryd.sizeOf156
  v35 := Tryd.zeroValue156
  t36 := Tryd.underlying157
  a36 := Tryd.isAgg157
  z36 := Tryd.sizeOf157
  v36 := Tryd.zeroValue157
  t41 := Tryd.underlying132
  a41 := Tryd.isAgg132
  z41 := Tryd.sizeOf132
  v41 := Tryd.zeroValue132
  t44 := Tryd.underlying39
  a44 := Tryd.isAgg39
  z44 := Tryd.sizeOf39
  v44 := Tryd.zeroValue39
  t46 := Tryd.underlying23
  a46 := Tryd.isAgg23
  z46 := Tryd.sizeOf23
  v46 := Tryd.zeroValue23
  t53 := Tryd.underlying167
  a53 := Tryd.isAgg167
  z53 := Tryd.sizeOf167
  v53 := Tryd.zeroValue167
  t57 := Tryd.underlying171
  a57 := Tryd.isAgg171
  z57 := Tryd.sizeOf171
  v57 := Tryd.zeroValue171
  t63 := Tryd.underlying176
  a63 := Tryd.isAgg176
  z63 := Tryd.sizeOf176
  v63 := Tryd.zeroValue176
  t64 := Tryd.underlying177
  a64 := Tryd.isAgg177
  z64 := Tryd.sizeOf177
  v64 := Tryd.zeroValue177 }

theorem Tryd.sortsLT (m : Nat) : AnyZ.SortsIn Tryd.prog Tryd.sortedLT_ren Fence.wide m :=
  ⟨fun blk off cap ss W hH hblk hsz => callsIn_wide.2 (AnyM.slices_Sort_string Tryd.sortLT blk off cap ss W hH hblk hsz),
   fun p cap W => callsIn_wide.2 (AnyM.slices_Sort_string_none Tryd.sortLT p cap W)⟩

/-- maps.Keys at a folder's map. -/
theorem Tryd.keysT (mb : Option Nat) (W : World) : Calls Tryd.prog 59 #[.map mb] W fun e w' => e = .returned (.func (.func 73) #[] #[.pointer (some ⟨W.heap.size, 0, none⟩)]) ∧ w' = W.alloc (.cells #[.map mb] 94) :=
  (callsIn_wide (n := 5)).1 (AnyZ.keys_in Tryd.keysLT Fence.wide 5 trivial rfl mb W)

set_option maxHeartbeats 1000000 in
theorem Tryd.sortedKeysT {H : Type} (b nn : Nat) (D0 : DataW H) (R : Value → Option (DataW H × List MemPlace)) (w : World) (hown : w.ownsMap Tryd.prog 9 R b nn D0) (hmax : Maps.size D0 ≤ maxLen) (hbytes : Maps.size D0 * 16 ≤ 140737488355328) :
    Calls Tryd.prog 58 #[.func (.func 73) #[] #[.pointer (some ⟨w.heap.size, 0, none⟩)]] (w.alloc (.cells #[.map (some b)] 94)) fun e w' => ∃ (v : Value) (ss : List (List UInt8)), e = .returned v ∧ ss.Perm (strKeys D0) ∧
      w'.ownsRow (w.alloc (.cells #[.map (some b)] 94)).heap.size 9 1 v ss.length ((ss.mergeSort (fun x y => decide (x ≤ y))).map encStr) ∧ (v = .slice none 0 0 ↔ ss = []) ∧ Below (w.alloc (.cells #[.map (some b)] 94)).heap.size (w.alloc (.cells #[.map (some b)] 94)) w' := by
  have hbl := hown.lt
  have hseq : SeqGives Fence.wide 2 Tryd.prog 73 #[.pointer (some ⟨w.heap.size, 0, none⟩)] encStr (fun ss => ss.Perm (strKeys D0)) (Maps.size D0) (w.alloc (.cells #[.map (some b)] 94)) :=
    AnyZ.keys_gives (ρ := Tryd.keysLT_ren) { Tryd.keysLT with } Fence.wide _ trivial rfl (by omega) w.heap.size b nn D0 _ (by simp) (by simp) (by
      obtain ⟨es, clock, hb, Ft, hs, hD⟩ := hown
      exact ⟨es, clock, (Below.heap_alloc _ _ b hbl).trans hb, Ft, hs, hD⟩)
  exact (callsIn_wide (n := 5)).1 (AnyZ.sorted_in Tryd.sortedLT Fence.wide 5 trivial trivial trivial trivial rfl (by omega) (Tryd.sortsLT _) (enters_of Tryd.func72 (by kernel_rfl) rfl) 73 #[.pointer (some ⟨w.heap.size, 0, none⟩)] trivial (enters_of Tryd.func73 (by kernel_rfl) rfl) _ _ hmax hbytes _ hseq)

set_option maxHeartbeats 1000000 in
theorem Tryd.sortedNilT (w : World) :
    Calls Tryd.prog 58 #[.func (.func 73) #[] #[.pointer (some ⟨w.heap.size, 0, none⟩)]] (w.alloc (.cells #[.map none] 94)) fun e w' => ∃ (v : Value) (ss : List (List UInt8)), e = .returned v ∧ ss = [] ∧
      w'.ownsRow (w.alloc (.cells #[.map none] 94)).heap.size 9 1 v ss.length ((ss.mergeSort (fun x y => decide (x ≤ y))).map encStr) ∧ (v = .slice none 0 0 ↔ ss = []) ∧ Below (w.alloc (.cells #[.map none] 94)).heap.size (w.alloc (.cells #[.map none] 94)) w' := by
  have hseq : SeqGives Fence.wide 2 Tryd.prog 73 #[.pointer (some ⟨w.heap.size, 0, none⟩)] encStr (fun ss : List (List UInt8) => ss = []) 0 (w.alloc (.cells #[.map none] 94)) :=
    AnyZ.keys_gives_nil (ρ := Tryd.keysLT_ren) { Tryd.keysLT with } Fence.wide _ trivial rfl w.heap.size _ (by simp) (by simp)
  exact (callsIn_wide (n := 5)).1 (AnyZ.sorted_in Tryd.sortedLT Fence.wide 5 trivial trivial trivial trivial rfl (by omega) (Tryd.sortsLT _) (enters_of Tryd.func72 (by kernel_rfl) rfl) 73 #[.pointer (some ⟨w.heap.size, 0, none⟩)] trivial (enters_of Tryd.func73 (by kernel_rfl) rfl) _ _ (Nat.zero_le _) (by omega) _ hseq)
end Go.Proofs
