import Derived.Test.YthcjjekkjbidlaaGreatDoorZPStLen
import Derived.Shelf.SlIter.Nil
import Derived.Shelf.SortM.Plain
import Derived.Shelf.SortM.SortNone
import Derived.RangeFuncStops
import Derived.Ground.GgzProg
import Derived.Ground.SlgmProg
import Derived.Test.YthcjjekkjbidlaaGreatDoorProg
set_option linter.unusedSimpArgs false
set_option linter.unusedVariables false
/-
  A node with all beneath it: the piece of the list that it is.
-/
namespace Go.Proofs.YthcjjekkjbidlaaGreatDoor.Sr
open Go.RowKit Go.Proofs.YthcjjekkjbidlaaGreatDoor.Rf Go.Proofs.YthcjjekkjbidlaaGreatDoor.Nm Go.Proofs.YthcjjekkjbidlaaGreatDoor.St

/-- A node, and all beneath it. -/
def subT (L : List TE) (n : PN) : List TE := L.filter fun e => n.isPrefixOf e.nm
theorem subT_mem {L : List TE} {n : PN} {e : TE} : e ∈ subT L n ↔ e ∈ L ∧ ∃ t, e.nm = n ++ t := by
  rw [subT, List.mem_filter, List.isPrefixOf_iff_prefix]
  constructor
  · rintro ⟨h, t, ht⟩; exact ⟨h, t, ht.symm⟩
  · rintro ⟨h, t, ht⟩; exact ⟨h, t, ht.symm⟩
theorem subT_srt {L : List TE} (h : SrtT L) (n : PN) : SrtT (subT L n) := h.sublist List.filter_sublist
theorem subT_root (L : List TE) : subT L [] = L := by
  rw [subT, List.filter_eq_self]; intro e _; rfl
/-- Two rising lists of the same nodes are the same. -/
theorem srt_ext : ∀ {A B : List TE}, SrtT A → SrtT B → (∀ x, x ∈ A ↔ x ∈ B) → A = B
  | [], [], _, _, _ => rfl
  | [], b :: B, _, _, h => by have := (h b).2 (by simp); cases this
  | a :: A, [], _, _, h => by have := (h a).1 (by simp); cases this
  | a :: A, b :: B, ha, hb, h => by
    obtain ⟨a1, a2⟩ := List.pairwise_cons.1 ha
    obtain ⟨b1, b2⟩ := List.pairwise_cons.1 hb
    have e : a = b := by
      rcases List.mem_cons.1 ((h a).1 (by simp)) with e | hab
      · exact e
      · rcases List.mem_cons.1 ((h b).2 (by simp)) with e | hba
        · exact e.symm
        · have := ahd_trans (a1 b hba) (b1 a hab)
          rw [ahd_irrefl] at this; cases this
    subst e
    congr 1
    refine srt_ext a2 b2 (fun x => ?_)
    have hx := h x
    rw [List.mem_cons, List.mem_cons] at hx
    constructor
    · intro hxa
      rcases hx.1 (.inr hxa) with rfl | hxb
      · have := a1 _ hxa; rw [ahd_irrefl] at this; cases this
      · exact hxb
    · intro hxb
      rcases hx.2 (.inr hxb) with rfl | hxa
      · have := b1 _ hxb; rw [ahd_irrefl] at this; cases this
      · exact hxa
/-- Each node's folder is there. -/
def ParT (L : List TE) : Prop := ∀ e ∈ L, ∀ n s, e.nm = n ++ [s] → ∃ u ∈ L, u.nm = n
theorem ParT.pre {L : List TE} (h : ParT L) : ∀ (t : PN) {n : PN} {e : TE}, e ∈ L → e.nm = n ++ t → ∃ u ∈ L, u.nm = n := by
  intro t
  generalize hk : t.length = k
  induction k generalizing t with
  | zero =>
    intro n e he hn
    obtain rfl := List.length_eq_zero_iff.1 hk
    exact ⟨e, he, by simpa using hn⟩
  | succ k ih =>
    intro n e he hn
    have hne : t ≠ [] := by rintro rfl; cases hk
    obtain ⟨a, s, rfl⟩ : ∃ a s, t = a ++ [s] := ⟨t.dropLast, t.getLast hne, (List.dropLast_concat_getLast hne).symm⟩
    obtain ⟨u, hu, h1⟩ := h e he (n ++ a) s (by rw [hn, List.append_assoc])
    exact ih a (by simpa using hk) hu h1
theorem subT_unfold {L : List TE} (hs : SrtT L) (hp : ParT L) {e : TE} (he : e ∈ L) : subT L e.nm = e :: (kidsT L e.nm).flatMap fun k => subT L (e.nm ++ [k.1]) := by
  refine srt_ext (subT_srt hs _) ?_ (fun x => ?_)
  · refine List.pairwise_cons.2 ⟨fun x hx => ?_, ?_⟩
    · obtain ⟨k, _, hx⟩ := List.mem_flatMap.1 hx
      obtain ⟨_, t, ht⟩ := subT_mem.1 hx
      rw [ht, List.append_assoc]
      exact ahd_below _ (by simp)
    · rw [List.flatMap_def, List.pairwise_flatten]
      refine ⟨fun l hl => ?_, ?_⟩
      · obtain ⟨k, _, rfl⟩ := List.mem_map.1 hl
        exact subT_srt hs _
      · rw [List.pairwise_map]
        refine (kidsT_srt hs e.nm).imp (fun {a b} hab x hx y hy => ?_)
        obtain ⟨_, t, ht⟩ := subT_mem.1 hx
        obtain ⟨_, t', ht'⟩ := subT_mem.1 hy
        rw [ht, ht', List.append_assoc, List.append_assoc, ahd_pre]
        show ahd (a.1 :: t) (b.1 :: t') = true
        rw [ahd, if_neg (lt_ne hab)]
        exact hab
  · rw [subT_mem, List.mem_cons, List.mem_flatMap]
    constructor
    · rintro ⟨hx, t, ht⟩
      cases t with
      | nil => exact .inl (srtT_inj hs hx he (by simpa using ht))
      | cons s t =>
        obtain ⟨u, hu, h1⟩ := hp.pre t hx (n := e.nm ++ [s]) (by rw [ht, List.append_assoc]; rfl)
        exact .inr ⟨(s, u.p), kidsT_mem.2 ⟨u, hu, h1, rfl⟩, subT_mem.2 ⟨hx, t, by rw [ht, List.append_assoc]; rfl⟩⟩
    · rintro (rfl | ⟨k, _, hx⟩)
      · exact ⟨he, [], by simp⟩
      · obtain ⟨hx, t, ht⟩ := subT_mem.1 hx
        exact ⟨hx, k.1 :: t, by rw [ht, List.append_assoc]; rfl⟩
end Go.Proofs.YthcjjekkjbidlaaGreatDoor.Sr
/-
  The shelf's contracts at this dump: the sorted names of a folder.
-/
namespace Go.Proofs
open Go.RowKit Go.Maps Go.Sort Go.Shelf

def Tryz.keysLT_ren : Go.Shelf.Ren := ⟨fun | 7 => 160 | 10 => 186 | n => n, fun | 23 => 148 | 26 => 9 | 3 => 142 | 28 => 179 | 0 => 0 | 27 => 178 | 33 => 224 | 4 => 4 | n => n, fun | n => n⟩
theorem Tryz.keysLT : Go.Proofs.SlLaysZ.n7 Tryz.prog Tryz.keysLT_ren := {
  mixed := by kernel_rfl
  f7 := ⟨Tryz.f160.name, by decide, Tryz.func160.trans (congrArg some (by kernel_rfl))⟩
  f10 := ⟨Tryz.f186.name, by decide, Tryz.func186.trans (congrArg some (by kernel_rfl))⟩
  t0 := Tryz.underlying0
  a0 := Tryz.isAgg0
  z0 := Tryz.sizeOf0
  v0 := Tryz.zeroValue0
  t4 := Tryz.underlying4
  a4 := Tryz.isAgg4
  z4 := Tryz.sizeOf4
  v4 := Tryz.zeroValue4
  t23 := Tryz.underlying148
  a23 := Tryz.isAgg148
  z23 := Tryz.sizeOf148
  v23 := Tryz.zeroValue148
  t26 := Tryz.underlying9
  a26 := Tryz.isAgg9
  z26 := Tryz.sizeOf9
  v26 := Tryz.zeroValue9
  t27 := Tryz.underlying178
  a27 := Tryz.isAgg178
  z27 := Tryz.sizeOf178
  v27 := Tryz.zeroValue178
  t28 := Tryz.underlying179
  a28 := Tryz.isAgg179
  z28 := Tryz.sizeOf179
  v28 := Tryz.zeroValue179
  t33 := Tryz.underlying224
  a33 := Tryz.isAgg224
  z33 := Tryz.sizeOf224
  v33 := Tryz.zeroValue224 }
def Tryz.sortedLT_ren : Go.Shelf.Ren := ⟨fun | 6 => 95 | 8 => 153 | 9 => 154 | 11 => 180 | 13 => 182 | 12 => 181 | 23 => 205 | 24 => 206 | 14 => 196 | 15 => 197 | 16 => 198 | 17 => 199 | 18 => 200 | 19 => 201 | 20 => 202 | 21 => 203 | 22 => 204 | 25 => 214 | 26 => 215 | 27 => 216 | 28 => 217 | 29 => 218 | 30 => 219 | 31 => 223 | n => n, fun | 26 => 9 | 28 => 179 | 24 => 34 | 0 => 0 | 3 => 3 | 37 => 201 | 48 => 76 | 50 => 31 | 4 => 4 | 40 => 264 | 39 => 263 | 45 => 113 | 5 => 5 | 9 => 9 | 51 => 273 | 55 => 277 | 57 => 282 | 58 => 283 | 33 => 224 | n => n, fun | n => n⟩
theorem Tryz.sortedLT : Go.Proofs.SlLaysZ.n6 Tryz.prog Tryz.sortedLT_ren := {
  mixed := by kernel_rfl
  f6 := ⟨Tryz.f95.name, by decide, Tryz.func95.trans (congrArg some (by kernel_rfl))⟩
  f8 := ⟨Tryz.f153.name, by decide, Tryz.func153.trans (congrArg some (by kernel_rfl))⟩
  f11 := ⟨Tryz.f180.name, by decide, Tryz.func180.trans (congrArg some (by kernel_rfl))⟩
  t0 := Tryz.underlying0
  a0 := Tryz.isAgg0
  z0 := Tryz.sizeOf0
  v0 := Tryz.zeroValue0
  t24 := Tryz.underlying34
  a24 := Tryz.isAgg34
  z24 := Tryz.sizeOf34
  v24 := Tryz.zeroValue34
  t26 := Tryz.underlying9
  a26 := Tryz.isAgg9
  z26 := Tryz.sizeOf9
  v26 := Tryz.zeroValue9
  t28 := Tryz.underlying179
  a28 := Tryz.isAgg179
  z28 := Tryz.sizeOf179
  v28 := Tryz.zeroValue179
  i26 := by kernel_rfl }
def Tryz.sortLT_ren : Go.Shelf.Ren := ⟨fun | 6 => 154 | 8 => 182 | 9 => 181 | 19 => 205 | 20 => 206 | 21 => 196 | 22 => 197 | 23 => 198 | 24 => 199 | 25 => 200 | 26 => 201 | 27 => 202 | 28 => 203 | 29 => 204 | 36 => 214 | 31 => 215 | 32 => 216 | 37 => 217 | 38 => 218 | 39 => 219 | 41 => 223 | n => n, fun | 27 => 34 | 29 => 9 | 3 => 3 | 32 => 201 | 26 => 34 | 0 => 0 | 44 => 76 | 46 => 31 | 4 => 4 | 36 => 264 | 35 => 263 | 41 => 113 | 5 => 5 | 9 => 9 | 53 => 273 | 57 => 277 | 63 => 282 | 64 => 283 | n => n, fun | n => n⟩
theorem Tryz.sortLT : Go.Proofs.SlLaysM.n6 Tryz.prog Tryz.sortLT_ren := {
  mixed := by kernel_rfl
  f6 := ⟨Tryz.f154.name, by decide, Tryz.func154.trans (congrArg some (by kernel_rfl))⟩
  f8 := Tryz.func182.trans (congrArg some (by kernel_rfl))
  f9 := ⟨Tryz.f181.name, by decide, Tryz.func181.trans (congrArg some (by kernel_rfl))⟩
  f19 := Tryz.func205.trans (congrArg some (by kernel_rfl))
  f20 := Tryz.func206.trans (congrArg some (by kernel_rfl))
  f21 := ⟨Tryz.f196.name, by decide, Tryz.func196.trans (congrArg some (by kernel_rfl))⟩
  f22 := ⟨Tryz.f197.name, by decide, Tryz.func197.trans (congrArg some (by kernel_rfl))⟩
  f23 := ⟨Tryz.f198.name, by decide, Tryz.func198.trans (congrArg some (by kernel_rfl))⟩
  f24 := ⟨Tryz.f199.name, by decide, Tryz.func199.trans (congrArg some (by kernel_rfl))⟩
  f25 := ⟨Tryz.f200.name, by decide, Tryz.func200.trans (congrArg some (by kernel_rfl))⟩
  f26 := ⟨Tryz.f201.name, by decide, Tryz.func201.trans (congrArg some (by kernel_rfl))⟩
  f27 := ⟨Tryz.f202.name, by decide, Tryz.func202.trans (congrArg some (by kernel_rfl))⟩
  f28 := ⟨Tryz.f203.name, by decide, Tryz.func203.trans (congrArg some (by kernel_rfl))⟩
  f29 := ⟨Tryz.f204.name, by decide, Tryz.func204.trans (congrArg some (by kernel_rfl))⟩
  f31 := Tryz.func215.trans (congrArg some (by kernel_rfl))
  f32 := Tryz.func216.trans (congrArg some (by kernel_rfl))
  f36 := ⟨Tryz.f214.name, by decide, Tryz.func214.trans (congrArg some (by kernel_rfl))⟩
  f37 := ⟨Tryz.f217.name, by decide, Tryz.func217.trans (congrArg some (by kernel_rfl))⟩
  f38 := ⟨Tryz.f218.name, by decide, Tryz.func218.trans (congrArg some (by kernel_rfl))⟩
  f39 := ⟨Tryz.f219.name, by decide, Tryz.func219.trans (congrArg some (by kernel_rfl))⟩
  f41 := ⟨Tryz.f223.name, by decide, Tryz.func223.trans (congrArg some (by kernel_rfl))⟩
  t0 := Tryz.underlying0
  a0 := Tryz.isAgg0
  z0 := Tryz.sizeOf0
  v0 := Tryz.zeroValue0
  t3 := Tryz.underlying3
  a3 := Tryz.isAgg3
  z3 := Tryz.sizeOf3
  v3 := Tryz.zeroValue3
  t4 := Tryz.underlying4
  a4 := Tryz.isAgg4
  z4 := Tryz.sizeOf4
  v4 := Tryz.zeroValue4
  t5 := Tryz.underlying5
  a5 := Tryz.isAgg5
  z5 := Tryz.sizeOf5
  v5 := Tryz.zeroValue5
  t9 := Tryz.underlying9
  a9 := Tryz.isAgg9
  z9 := Tryz.sizeOf9
  v9 := Tryz.zeroValue9
  t26 := Tryz.underlying34
  a26 := Tryz.isAgg34
  z26 := Tryz.sizeOf34
  v26 := Tryz.zeroValue34
  t27 := Tryz.underlying34
  a27 := Tryz.isAgg34
  z27 := Tryz.sizeOf34
  v27 := Tryz.zeroValue34
  t29 := Tryz.underlying9
  a29 := Tryz.isAgg9
  z29 := Tryz.sizeOf9
  v29 := Tryz.zeroValue9
  t32 := Tryz.underlying201
  a32 := Tryz.isAgg201
  z32 := Tryz.sizeOf201
  v32 := Tryz.zeroValue201
  t35 := Tryz.underlying263
  a35 := Tryz.isAgg263
  z35 := Tryz.sizeOf263
  v35 := Tryz.zeroValue263
  t36 := Tryz.underlying264
  a36 := Tryz.isAgg264
  z36 := Tryz.sizeOf264
  v36 := Tryz.zeroValue264
  t41 := Tryz.underlying113
  a41 := Tryz.isAgg113
  z41 := Tryz.sizeOf113
  v41 := Tryz.zeroValue113
  t44 := Tryz.underlying76
  a44 := Tryz.isAgg76
  z44 := Tryz.sizeOf76
  v44 := Tryz.zeroValue76
  t46 := Tryz.underlying31
  a46 := Tryz.isAgg31
  z46 := Tryz.sizeOf31
  v46 := Tryz.zeroValue31
  t53 := Tryz.underlying273
  a53 := Tryz.isAgg273
  z53 := Tryz.sizeOf273
  v53 := Tryz.zeroValue273
  t57 := Tryz.underlying277
  a57 := Tryz.isAgg277
  z57 := Tryz.sizeOf277
  v57 := Tryz.zeroValue277
  t63 := Tryz.underlying282
  a63 := Tryz.isAgg282
  z63 := Tryz.sizeOf282
  v63 := Tryz.zeroValue282
  t64 := Tryz.underlying283
  a64 := Tryz.isAgg283
  z64 := Tryz.sizeOf283
  v64 := Tryz.zeroValue283 }

theorem Tryz.sortsLT (m : Nat) : AnyZ.SortsIn Tryz.prog Tryz.sortedLT_ren Fence.wide m :=
  ⟨fun blk off cap ss W hH hblk hsz => callsIn_wide.2 (AnyM.slices_Sort_string Tryz.sortLT blk off cap ss W hH hblk hsz),
   fun p cap W => callsIn_wide.2 (AnyM.slices_Sort_string_none Tryz.sortLT p cap W)⟩

/-- maps.Keys at a folder's map. -/
theorem Tryz.keysT (mb : Option Nat) (W : World) : Calls Tryz.prog 160 #[.map mb] W fun e w' => e = .returned (.func (.func 186) #[] #[.pointer (some ⟨W.heap.size, 0, none⟩)]) ∧ w' = W.alloc (.cells #[.map mb] 148) :=
  (callsIn_wide (n := 5)).1 (AnyZ.keys_in Tryz.keysLT Fence.wide 5 trivial rfl mb W)

set_option maxHeartbeats 1000000 in
theorem Tryz.sortedKeysT {H : Type} (b nn : Nat) (D0 : DataW H) (R : Value → Option (DataW H × List MemPlace)) (w : World) (hown : w.ownsMap Tryz.prog 9 R b nn D0) (hmax : Maps.size D0 ≤ maxLen) (hbytes : Maps.size D0 * 16 ≤ 140737488355328) :
    Calls Tryz.prog 95 #[.func (.func 186) #[] #[.pointer (some ⟨w.heap.size, 0, none⟩)]] (w.alloc (.cells #[.map (some b)] 148)) fun e w' => ∃ (v : Value) (ss : List (List UInt8)), e = .returned v ∧ ss.Perm (strKeys D0) ∧
      w'.ownsRow (w.alloc (.cells #[.map (some b)] 148)).heap.size 9 1 v ss.length ((ss.mergeSort (fun x y => decide (x ≤ y))).map encStr) ∧ (v = .slice none 0 0 ↔ ss = []) ∧ Below (w.alloc (.cells #[.map (some b)] 148)).heap.size (w.alloc (.cells #[.map (some b)] 148)) w' := by
  have hbl := hown.lt
  have hseq : SeqGives Fence.wide 2 Tryz.prog 186 #[.pointer (some ⟨w.heap.size, 0, none⟩)] encStr (fun ss => ss.Perm (strKeys D0)) (Maps.size D0) (w.alloc (.cells #[.map (some b)] 148)) :=
    AnyZ.keys_gives (ρ := Tryz.keysLT_ren) { Tryz.keysLT with } Fence.wide _ trivial rfl (by omega) w.heap.size b nn D0 _ (by simp) (by simp) (by
      obtain ⟨es, clock, hb, Ft, hs, hD⟩ := hown
      exact ⟨es, clock, (Below.heap_alloc _ _ b hbl).trans hb, Ft, hs, hD⟩)
  exact (callsIn_wide (n := 5)).1 (AnyZ.sorted_in Tryz.sortedLT Fence.wide 5 trivial trivial trivial trivial rfl (by omega) (Tryz.sortsLT _) (enters_of Tryz.func154 (by kernel_rfl) rfl) 186 #[.pointer (some ⟨w.heap.size, 0, none⟩)] trivial (enters_of Tryz.func186 (by kernel_rfl) rfl) _ _ hmax hbytes _ hseq)

set_option maxHeartbeats 1000000 in
theorem Tryz.sortedNilT (w : World) :
    Calls Tryz.prog 95 #[.func (.func 186) #[] #[.pointer (some ⟨w.heap.size, 0, none⟩)]] (w.alloc (.cells #[.map none] 148)) fun e w' => ∃ (v : Value) (ss : List (List UInt8)), e = .returned v ∧ ss = [] ∧
      w'.ownsRow (w.alloc (.cells #[.map none] 148)).heap.size 9 1 v ss.length ((ss.mergeSort (fun x y => decide (x ≤ y))).map encStr) ∧ (v = .slice none 0 0 ↔ ss = []) ∧ Below (w.alloc (.cells #[.map none] 148)).heap.size (w.alloc (.cells #[.map none] 148)) w' := by
  have hseq : SeqGives Fence.wide 2 Tryz.prog 186 #[.pointer (some ⟨w.heap.size, 0, none⟩)] encStr (fun ss : List (List UInt8) => ss = []) 0 (w.alloc (.cells #[.map none] 148)) :=
    AnyZ.keys_gives_nil (ρ := Tryz.keysLT_ren) { Tryz.keysLT with } Fence.wide _ trivial rfl w.heap.size _ (by simp) (by simp)
  exact (callsIn_wide (n := 5)).1 (AnyZ.sorted_in Tryz.sortedLT Fence.wide 5 trivial trivial trivial trivial rfl (by omega) (Tryz.sortsLT _) (enters_of Tryz.func154 (by kernel_rfl) rfl) 186 #[.pointer (some ⟨w.heap.size, 0, none⟩)] trivial (enters_of Tryz.func186 (by kernel_rfl) rfl) _ _ (Nat.zero_le _) (by omega) _ hseq)
end Go.Proofs
