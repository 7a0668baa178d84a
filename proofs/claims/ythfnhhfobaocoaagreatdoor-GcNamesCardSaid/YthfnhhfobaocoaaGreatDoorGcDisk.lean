/-
  A new disk without files: what the calls of GcNames do to it; the empty book that is read from it.
-/
import Derived.Test.YthfnhhfobaocoaaGreatDoorDkSmall
import Derived.Test.YthfnhhfobaocoaaGreatDoorGcShelf
import Derived.Test.YthfnhhfobaocoaaGreatDoorGcPlan
import Derived.Lib.BufferRead
import Derived.Lib.SlKeysI
namespace Go.Proofs.YthfnhhfobaocoaaGreatDoor.Gc
open Go.RowKit Go.Maps Go.WideMaps Go.Proofs.YthfnhhfobaocoaaGreatDoor.Dk

/-- A disk on which nothing was done but k counted calls. -/
def fresh (k : Nat) : Dk := { newDk 1048576 with calls := k }
theorem fresh_new : newDk 1048576 = fresh 0 := rfl
theorem fresh_count (k : Nat) : count (fresh k) = (0, fresh (k + 1)) := rfl
theorem fresh_size (k : Nat) (s : List UInt8) : size (fresh k) s = ((0, 6), fresh (k + 1)) := rfl
theorem fresh_ok {k : Nat} (h : k ≤ 1000) : Ok (fresh k) :=
  ⟨fun _ h => (nomatch h), fun _ h => (nomatch h), fun _ h => (nomatch h), (by show k ≤ 1000000; omega), (by show (0 : Nat) ≤ _; omega), (by show (0 : Nat) ≤ _; omega), (by show (0 : Nat) ≤ _; omega), (by show (0 : Nat) ≤ _; omega), fun _ h => (nomatch h), (by show (0 : Int) ≤ 1048576 ∧ (1048576 : Int) ≤ _; omega), rfl⟩

/-- A disk that holds no closure and no row of numbers, and whose own blocks are as they were. -/
theorem disk_aside {B : Nat} {w w' : World} {Y : Lay} {D : Dk} (h : DiskAt B w Y D) (h1 : D.chs = []) (h2 : D.next.2 = []) (h3 : D.crash.2 = []) (hb : ∀ b ∈ Y.blocks, w'.heap[b]? = w.heap[b]?) : DiskAt B w' Y D := by
  have hn := h.kn
  have hk := h.kc
  have hcv : Y.cv = [] := by have := h.chs.1; rw [h1] at this; simpa using this
  refine ⟨(hb _ (mem_g Y)).trans h.disk, ownsMap_block h.now (hb _ (in_blocks (mem_bn Y))), ownsMap_block h.safe (hb _ (in_blocks (mem_bs Y))), row_kept h.files (fun b hm _ => hb b (in_blocks (mem_vf hm))), row_kept h.chs (fun b hm _ => hb b (in_blocks (mem_vc hm))), ?_, ?_, ?_, ?_, h.lenF, h.nodup, h.base⟩
  · intro i p f k1 k2
    obtain ⟨e1, e2⟩ := h.each i p f k1 k2
    exact ⟨(hb _ (in_blocks (mem_fs k1))).trans e1, row_kept e2 (fun b hm _ => hb b (in_blocks (mem_fd k1 hm)))⟩
  · intro i v c k1 _; rw [hcv] at k1; simp at k1
  · obtain ⟨a, cap, e, hl, _⟩ := hn; exact ⟨a, cap, e, hl, fun hne => absurd h2 hne⟩
  · obtain ⟨a, cap, e, hl, _⟩ := hk; exact ⟨a, cap, e, hl, fun hne => absurd h3 hne⟩

/-- What a call on such a disk leaves. -/
structure DP (B : Nat) (Y : Lay) (w : World) (k : Nat) (w' : World) (Y' : Lay) : Prop where
  disk : DiskAt B w' Y' (fresh k)
  g : Y'.g = Y.g
  turn : Turn Y.blocks w w'
  own : ∀ b ∈ Y'.blocks, b ∈ Y.blocks ∨ w.heap.size ≤ b
section
variable {B k k' : Nat} {Y Y' Y2 : Lay} {w w' w2 : World}
theorem DP.trans (h : DP B Y w k w' Y') (h2 : DP B Y' w' k' w2 Y2) : DP B Y w k' w2 Y2 :=
  ⟨h2.disk, h2.g.trans h.g, h.turn.trans h2.turn h.own, fun b hb => (h2.own b hb).elim (h.own b) (fun hx => .inr (Nat.le_trans h.turn.size hx))⟩
theorem DP.below (h : DP B Y w k w' Y') (hb : Below w'.heap.size w' w2) : DP B Y w k w2 Y' :=
  ⟨h.disk.below hb, h.g, h.turn.trans (Turn.of_below (X := []) hb) (by simp), h.own⟩
theorem DP.pre (hb : Below w.heap.size w w') (h : DP B Y w' k w2 Y2) : DP B Y w k w2 Y2 :=
  ⟨h.disk, h.g, (Turn.of_below (X := Y.blocks) hb).trans h.turn (fun _ hy => .inl hy), fun b hx => (h.own b hx).imp id (fun hx => Nat.le_trans hb.size hx)⟩
theorem DP.refl (h : DiskAt B w Y (fresh k)) : DP B Y w k w Y := ⟨h, rfl, Turn.refl _ _, fun _ hb => .inl hb⟩
theorem DP.far (h : DP B Y w k w' Y') {x : Nat} (hx : x < w.heap.size) (hn : x ∉ Y.blocks) : w'.heap[x]? = w.heap[x]? := h.turn.block x hx hn
theorem DP.low (h : DP B Y w k w' Y') (hY : ∀ b ∈ Y.blocks, B ≤ b) (hB : B ≤ w.heap.size) : Below B w w' := h.turn.below hY hB
theorem DP.aside (h : DP B Y w k w' Y') {x : Nat} (hn : x ∉ Y'.blocks) (hw : w.heap.size ≤ x) (j : Nat) (v : Value) : DP B Y w k (w'.setCell ⟨x, j, none⟩ v) Y' :=
  ⟨disk_aside h.disk rfl rfl rfl (fun b hb => Below.heap_setCell _ _ _ _ (by intro e; exact hn (by rw [← show b = x from e]; exact hb))), h.g, h.turn.setCell (.inr hw) v, h.own⟩
/-- What lies apart from the disk lies apart from it behind the call. -/
theorem DP.apart (h : DP B Y w k w' Y') {x : Nat} (hx : x < w.heap.size) (hn : x ∉ Y.blocks) : x ∉ Y'.blocks := fun hb => (h.own x hb).elim hn (fun h => by omega)
end

set_option maxHeartbeats 2000000 in
set_option maxRecDepth 100000 in
theorem list_any (B k : Nat) (hk : k ≤ 1000) (w : World) (Y : Lay) (h : DiskAt B w Y (fresh k)) :
    Calls Tryz.prog 20 #[ptr Y.g] w fun e w' => e = .returned (.tuple #[.slice none 0 0, .int .i64 0]) ∧ ∃ Y', DP B Y w (k + 1) w' Y' := by
  have ok := fresh_ok hk
  have C := Lib.hid (count_any B _ Y _ h ok.calls ok.left)
  rw [fresh_count] at C
  clear h ok
  unfold ptr
  go_enter Tryz.func20, Tryz.ntmps20
  go_wp2_with fail
  refine C.out.mono ?_
  rintro e w1 ⟨kc', rfl, h1, ht⟩
  dsimp only at h1
  have H1 := Lib.hid h1; have HT := Lib.hid ht
  have c3 : w1.cell? ⟨Y.g, 3, none⟩ = some (.map (some Y.bn)) := h1.cell 3
  have KE := Lib.hid (Tryz.keys (some Y.bn) w1)
  have SK := Lib.hid (Tryz.sortedKeys Y.bn 1000000 _ _ w1 h1.now (by show Maps.size (toD []) ≤ _; rw [toD_size]; unfold maxLen; simp) (by show Maps.size (toD []) * 16 ≤ _; rw [toD_size]; simp))
  clear h1 ht C
  go_wp2_with (first
    | (go_at_call 49; refine KE.out.mono ?_; rintro e w2 ⟨rfl, rfl⟩)
    | (go_at_call 48; refine SK.out.mono ?_; rintro e w3 ⟨v, ss, rfl, hp, ho, hv, hb⟩; have hss : ss = [] := hp.eq_nil; obtain rfl := hv.2 hss; have HB3 := Lib.hid hb; clear hp ho hv hb hss))
  go_ret2
  have hb1 : Below w1.heap.size w1 w3 := by
    have hb0 : Below w1.heap.size w1 (w1.alloc (.cells #[.map (some Y.bn)] 69)) := (Below.refl _ _).alloc (Nat.le_refl _) _
    exact hb0.trans (HB3.out.mono (by rw [one_size]; omega))
  have hdp : DP B Y w (k + 1) w1 { Y with kc := kc' } := ⟨H1.out, rfl, HT.out.mono (by intro x hx; obtain rfl := List.mem_singleton.1 hx; exact mem_g Y), fun b hb => .inl hb⟩
  exact ⟨rfl, _, hdp.below hb1⟩

set_option maxHeartbeats 2000000 in
set_option maxRecDepth 100000 in
theorem whole_any (B k : Nat) (hk : k ≤ 1000) (w : World) (Y : Lay) (S : ByteArray) (hS : S.size ≤ maxLen) (h : DiskAt B w Y (fresh k)) :
    Calls Tryz.prog 34 #[ptr Y.g, .string S] w fun e w' => e = .returned (.tuple #[.string ⟨#[]⟩, .int .i64 6]) ∧ ∃ Y', DP B Y w (k + 1) w' Y' := by
  have SZ := size_any B w Y _ S hS h (fresh_ok hk)
  rw [fresh_size] at SZ
  have SZ := Lib.hid SZ
  clear h
  unfold ptr at *
  go_enter Tryz.func34, Tryz.ntmps34
  go_wp2_with fail
  refine SZ.out.mono ?_
  rintro e w1 ⟨Y', rfl, h1, ht, ho, hg⟩
  have HD : Hid (DP B Y w (k + 1) w1 Y') := Lib.hid ⟨h1, hg, ht, ho⟩
  clear h1 ht hg ho SZ
  go_wp2
  go_ret2
  exact ⟨rfl, Y', HD.out⟩

/-- An empty book. -/
structure Empty (w : World) (g b : Nat) : Prop where
  book : w.heap[g]? = some (.cells #[.map (some b)] 128)
  map : w.ownsMap Tryz.prog 9 (fun _ => none) b 0 (.map [] : DataW Unit)
theorem Empty.below {w w' : World} {g b : Nat} (h : Empty w g b) (hb : Below w.heap.size w w') : Empty w' g b :=
  ⟨(hb.block _ (lt_of_heap h.book)).trans h.book, ownsMap_block h.map (hb.block _ h.map.lt)⟩

set_option maxRecDepth 100000 in
theorem book_any (w : World) :
    Calls Tryz.prog 35 #[] w fun e w' => ∃ g b, e = .returned (ptr g) ∧ Empty w' g b ∧ Below w.heap.size w w' := by
  have hmm := @run_makeMap Tryz.prog
  go_enter Tryz.func35, Tryz.ntmps35
  go_wp2
  go_ret
  refine ⟨w.heap.size + 1, w.heap.size, rfl, ⟨?_, ?_⟩, ((Below.refl _ _).alloc (Nat.le_refl _) _).alloc (by rw [one_size]; omega) _⟩
  · have := (MapKept.heap_alloc (w.alloc (.map #[] 0)) (.cells #[.map (some w.heap.size)] 128)).1
    rwa [one_size] at this
  · exact (World.ownsMap_made w Tryz.prog 9 _).alloc _

set_option maxHeartbeats 2000000 in
set_option maxRecDepth 100000 in
theorem branches_any (w : World) (g b : Nat) (h : Empty w g b) :
    Calls Tryz.prog 37 #[ptr g] w fun e w' => e = .returned (.slice none 0 0) ∧ Below w.heap.size w w' := by
  have c0 : w.cell? ⟨g, 0, none⟩ = some (.map (some b)) := cell_of_heap h.book
  have KE := Lib.hid (Tryz.keysBook (some b) w)
  have SK := Lib.hid (Tryz.sortedBook b 0 _ _ w h.map (by show (0 : Nat) ≤ maxLen; unfold maxLen; omega) (by show (0 : Nat) * 16 ≤ _; omega))
  clear h
  unfold ptr at *
  go_enter Tryz.func37, Tryz.ntmps37
  go_wp2_with (first
    | (go_at_call 99; refine KE.out.mono ?_; rintro e w2 ⟨rfl, rfl⟩)
    | (go_at_call 48; refine SK.out.mono ?_; rintro e w3 ⟨v, ss, rfl, hp, ho, hv, hb⟩; have hss : ss = [] := hp.eq_nil; obtain rfl := hv.2 hss; have HB := Lib.hid hb; clear hp ho hb hv hss))
  go_ret
  have hb0 : Below w.heap.size w (w.alloc (.cells #[.map (some b)] 126)) := (Below.refl _ _).alloc (Nat.le_refl _) _
  exact ⟨rfl, hb0.trans (HB.out.mono (by rw [one_size]; omega))⟩

set_option maxHeartbeats 2000000 in
set_option maxRecDepth 100000 in
theorem load_any (B k : Nat) (hk : k ≤ 1000) (w : World) (Y : Lay) (h : DiskAt B w Y (fresh k)) :
    Calls Tryz.prog 16 #[ptr Y.g] w fun e w' => ∃ g b, e = .returned (.tuple #[ptr g, .int .i64 0]) ∧ Empty w' g b ∧ ∃ Y', DP B Y w (k + 1) w' Y' := by
  have WH := Lib.hid (whole_any B k hk w Y ⟨#[114, 101, 102, 115, 46, 114, 102]⟩ (by unfold maxLen; decide) h)
  clear h
  unfold ptr at *
  go_enter Tryz.func16, Tryz.ntmps16
  go_wp2_with fail
  refine WH.out.mono ?_
  rintro e w1 ⟨rfl, Y', hd⟩
  have HD := Lib.hid hd
  have BK := Lib.hid (book_any w1)
  unfold ptr at BK
  clear hd WH
  go_wp2_with fail
  refine BK.out.mono ?_
  rintro e w2 ⟨g, b, rfl, he, hb⟩
  have HE := Lib.hid he; have HB := Lib.hid hb
  clear he hb BK
  go_wp2
  go_ret2
  exact ⟨g, b, rfl, HE.out, Y', HD.out.below HB.out⟩

set_option maxHeartbeats 2000000 in
set_option maxRecDepth 100000 in
theorem newest_any (w : World) (g b : Nat) (h : Empty w g b) :
    Calls Tryz.prog 17 #[ptr g] w fun e w' => e = .returned (.int .i64 0) ∧ Below w.heap.size w w' := by
  have BR := Lib.hid (branches_any w g b h)
  clear h
  unfold ptr at *
  go_enter Tryz.func17, Tryz.ntmps17
  go_wp2_with fail
  refine BR.out.mono ?_
  rintro e w1 ⟨rfl, hb⟩
  have HB := Lib.hid hb
  clear hb BR
  go_wp2
  go_loop [3, 11] (fun u v => u = .int .i64 0 ∧ v = .int .i64 0) (fun _ _ => 0)
  case atStart => exact ⟨rfl, rfl⟩
  case round =>
    obtain ⟨rfl, rfl⟩ := hrel
    go_wp2
    go_ret
    exact ⟨rfl, HB.out⟩
end Go.Proofs.YthfnhhfobaocoaaGreatDoor.Gc
