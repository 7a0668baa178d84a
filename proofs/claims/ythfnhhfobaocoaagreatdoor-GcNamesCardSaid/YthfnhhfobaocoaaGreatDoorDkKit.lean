/-
  How a disk lies in memory; which blocks are its own.
-/
import Derived.Test.YthfnhhfobaocoaaGreatDoorDkPlain
import Derived.Test.YthfnhhfobaocoaaGreatDoorRowKit
import Derived.Maps.OwnSet
import Derived.Maps.OwnOps
import Derived.Lib.BufSteps
import Derived.Lib.Hide
import Derived.Laws.AppendOwn
import Derived.OwnWalk
import Derived.BigRegion
import Derived.BigQuiet
import Derived.BigCall
import Derived.BigGuard
import Derived.Deep.QuietTactic
namespace Go.Proofs.YthfnhhfobaocoaaGreatDoor.Dk
open Go.RowKit Go.Maps

theorem law : Keyed Tryz.prog 9 := string_keyed Tryz.underlying9
theorem zeroInt (w : World) : (zeroValue 3).run Tryz.prog w = .ok (.int .i64 0) w := by kernel_rfl

/-- Only the blocks of X may have turned; what is new lies behind. -/
structure Turn (X : List Nat) (w w' : World) : Prop where
  os : w'.os = w.os
  tape : w'.tape = w.tape
  output : w'.output = w.output
  size : w.heap.size ≤ w'.heap.size
  block : ∀ k, k < w.heap.size → k ∉ X → w'.heap[k]? = w.heap[k]?

theorem Turn.refl (X : List Nat) (w : World) : Turn X w w := ⟨rfl, rfl, rfl, Nat.le_refl _, fun _ _ _ => rfl⟩
theorem Turn.trans {X Y : List Nat} {a b c : World} (h : Turn X a b) (k : Turn Y b c) (hY : ∀ y ∈ Y, y ∈ X ∨ a.heap.size ≤ y) : Turn X a c :=
  ⟨k.os.trans h.os, k.tape.trans h.tape, k.output.trans h.output, Nat.le_trans h.size k.size, fun j hj hx => by
    rw [k.block j (Nat.lt_of_lt_of_le hj h.size) (fun hy => (hY j hy).elim hx (by omega)), h.block j hj hx]⟩
theorem Turn.mono {X Y : List Nat} {a b : World} (h : Turn X a b) (hX : ∀ x ∈ X, x ∈ Y) : Turn Y a b :=
  ⟨h.os, h.tape, h.output, h.size, fun k hk hy => h.block k hk (fun hx => hy (hX k hx))⟩
theorem Turn.alloc {X : List Nat} {a b : World} (h : Turn X a b) (o : Obj) : Turn X a (b.alloc o) :=
  ⟨h.os, h.tape, h.output, Nat.le_trans h.size (by show b.heap.size ≤ (b.heap.push o).size; rw [Array.size_push]; omega), fun k hk hx => (Below.heap_alloc _ _ _ (Nat.lt_of_lt_of_le hk h.size)).trans (h.block k hk hx)⟩
theorem Turn.drew {X : List Nat} {a b : World} (h : Turn X a b) : Turn X a b.drew := ⟨h.os, h.tape, h.output, h.size, h.block⟩
theorem Turn.setCell {X : List Nat} {a b : World} (h : Turn X a b) {p : Addr} (hp : p.block ∈ X ∨ a.heap.size ≤ p.block) (v : Value) : Turn X a (b.setCell p v) :=
  ⟨h.os, h.tape, h.output, by simpa [World.setCell] using h.size, fun k hk hx => by
    rw [Below.heap_setCell _ _ _ _ (by intro e; subst e; exact hp.elim hx (by omega))]; exact h.block k hk hx⟩
theorem Turn.of_below {X : List Nat} {a b : World} (h : Below a.heap.size a b) : Turn X a b := ⟨h.os, h.tape, h.output, h.size, fun k hk _ => h.block k hk⟩
theorem Turn.below {X : List Nat} {B : Nat} {a b : World} (h : Turn X a b) (hX : ∀ x ∈ X, B ≤ x) (hB : B ≤ a.heap.size) : Below B a b :=
  ⟨h.os, h.tape, h.output, h.size, fun k hk => h.block k (by omega) (fun hx => by have := hX k hx; omega)⟩

theorem setCell_heap (w : World) (g j : Nat) (v : Value) (cur : Array Value) (T : TypeId) (h : w.heap[g]? = some (.cells cur T)) :
    (w.setCell ⟨g, j, none⟩ v).heap[g]? = some (.cells (cur.setIfInBounds j v) T) := by
  simp [World.setCell, Array.getElem?_modify, h]
theorem cell_of_heap {w : World} {g j : Nat} {cur : Array Value} {T : TypeId} (h : w.heap[g]? = some (.cells cur T)) : w.cell? ⟨g, j, none⟩ = cur[j]? := by
  simp [World.cell?, h]
theorem frozen_of_heap {w : World} {g j : Nat} {cur : Array Value} {T : TypeId} (h : w.heap[g]? = some (.cells cur T)) : w.frozen? ⟨g, j, none⟩ = false := by
  simp [World.frozen?, h]

/-- The blocks of a disk. -/
structure Lay where
  g : Nat
  bn : Nat
  bs : Nat
  vf : Value
  vc : Value
  fs : List (Nat × Value)
  cv : List Value
  kn : Value
  kc : Value

def ob (v : Value) : List Nat := v.ownBlock.toList
def fb (p : Nat × Value) : List Nat := p.1 :: ob p.2
def Lay.rest (Y : Lay) : List Nat := Y.bn :: Y.bs :: (ob Y.vf ++ (ob Y.vc ++ Y.fs.flatMap fb))
def Lay.blocks (Y : Lay) : List Nat := Y.g :: Y.rest

def cellsOf (Y : Lay) (D : Dk) : Array Value :=
  #[.int .i64 D.quota, .int .i64 D.used, Y.vf, .map (some Y.bn), .map (some Y.bs), Y.vc, .int .i64 D.calls, .int .i64 D.left, .int .i64 D.next.1, Y.kn, .int .i64 D.crash.1, Y.kc, .bool D.down]

abbrev ptr (n : Nat) : Value := .pointer (some ⟨n, 0, none⟩)

/-- A row of numbers that nobody writes. -/
def KeepAt (w : World) (X : List Nat) (v : Value) (ks : List Int) : Prop :=
  ∃ a cap, v = .slice a ks.length cap ∧ ks.length ≤ 17592186044416 ∧ (ks ≠ [] → ∃ b o, a = some ⟨b, o, none⟩ ∧ b < w.heap.size ∧ b ∉ X ∧ ∀ (j : Nat) x, ks[j]? = some x → w.cell? ⟨b, o + j, none⟩ = some (.int .i64 x))

/-- A closure that does something to a directory, and what it has captured. -/
def ClosAt (w : World) (X : List Nat) (v : Value) : Ch → Prop
  | .put k n => ∃ q1 q2, v = .func (.func 148) #[] #[ptr q1, ptr q2] ∧ w.heap[q1]? = some (.cells #[.int .i64 (n : Int)] 3) ∧ w.heap[q2]? = some (.cells #[.string ⟨k.toArray⟩] 9) ∧ q1 ∉ X ∧ q2 ∉ X
  | .ren a b => ∃ q1 q2, v = .func (.func 149) #[] #[ptr q1, ptr q2] ∧ w.heap[q1]? = some (.cells #[.string ⟨a.toArray⟩] 9) ∧ w.heap[q2]? = some (.cells #[.string ⟨b.toArray⟩] 9) ∧ q1 ∉ X ∧ q2 ∉ X
  | .del k => ∃ q1, v = .func (.func 81) #[] #[ptr q1] ∧ w.heap[q1]? = some (.cells #[.string ⟨k.toArray⟩] 9) ∧ q1 ∉ X

structure DiskAt (B : Nat) (w : World) (Y : Lay) (D : Dk) : Prop where
  disk : w.heap[Y.g]? = some (.cells (cellsOf Y D) 76)
  now : w.ownsMap Tryz.prog 9 (plainElem Tryz.prog 3) Y.bn 1000000 (toD D.now)
  safe : w.ownsMap Tryz.prog 9 (plainElem Tryz.prog 3) Y.bs 1000000 (toD D.safe)
  files : w.ownsRow B 170 1 Y.vf D.files.length (Y.fs.map fun p => ptr p.1)
  chs : w.ownsRow B 273 1 Y.vc D.chs.length Y.cv
  each : ∀ (i : Nat) p f, Y.fs[i]? = some p → D.files[i]? = some f → w.heap[p.1]? = some (.cells #[p.2, .int .i64 (f.safe : Int)] 268) ∧ w.ownsRow B 5 1 p.2 f.data.length (Lib.byteCells f.data)
  clos : ∀ (i : Nat) v c, Y.cv[i]? = some v → D.chs[i]? = some c → ClosAt w Y.blocks v c
  kn : KeepAt w Y.blocks Y.kn D.next.2
  kc : KeepAt w Y.blocks Y.kc D.crash.2
  lenF : Y.fs.length = D.files.length
  nodup : Y.blocks.Nodup
  base : ∀ b ∈ Y.blocks, B ≤ b

theorem ownsRow_block {w w' : World} {B : Nat} {e : TypeId} {size : Nat} {v : Value} {n : Nat} {xs : List Value} (h : w.ownsRow B e size v n xs) (hb : ∀ b ∈ ob v, w'.heap[b]? = w.heap[b]?) : w'.ownsRow B e size v n xs := by
  obtain ⟨h1, h2 | ⟨g, cap, cur, rfl, a, b, c⟩⟩ := h
  · exact ⟨h1, .inl h2⟩
  · exact ⟨h1, .inr ⟨g, cap, cur, rfl, a, (hb g (by simp [ob, Value.ownBlock])).trans b, c⟩⟩
theorem ownsMap_block {w w' : World} {R : Value → Option (DataW Unit × List MemPlace)} {k : TypeId} {b n : Nat} {D : DataW Unit} (h : w.ownsMap Tryz.prog k R b n D) (hb : w'.heap[b]? = w.heap[b]?) : w'.ownsMap Tryz.prog k R b n D := by
  obtain ⟨es, clock, h1, h2⟩ := h
  exact ⟨es, clock, hb.trans h1, h2⟩
theorem KeepAt.kept {w w' : World} {X X' : List Nat} {v : Value} {ks : List Int} (h : KeepAt w X v ks) (hs : w.heap.size ≤ w'.heap.size) (hb : ∀ b, b < w.heap.size → b ∉ X → w'.heap[b]? = w.heap[b]?) (hX : ∀ b, b < w.heap.size → b ∈ X' → b ∈ X) : KeepAt w' X' v ks := by
  obtain ⟨a, cap, rfl, hl, hc⟩ := h
  refine ⟨a, cap, rfl, hl, fun hne => ?_⟩
  obtain ⟨b, o, rfl, hlt, hx, hcell⟩ := hc hne
  refine ⟨b, o, rfl, by omega, fun hx' => hx (hX b hlt hx'), fun j x hj => ?_⟩
  rw [World.cell?_of_block (a := ⟨b, o + j, none⟩) (hb b hlt hx)]; exact hcell j x hj
theorem lt_of_heap {w : World} {q : Nat} {o : Obj} (h : w.heap[q]? = some o) : q < w.heap.size := (Array.getElem?_eq_some_iff.1 h).1
theorem ClosAt.kept {w w' : World} {X X' : List Nat} {v : Value} {c : Ch} (h : ClosAt w X v c) (hb : ∀ b, b < w.heap.size → b ∉ X → w'.heap[b]? = w.heap[b]?) (hX : ∀ b, b < w.heap.size → b ∈ X' → b ∈ X) : ClosAt w' X' v c := by
  cases c with
  | put k n =>
    obtain ⟨q1, q2, e, h1, h2, h3, h4⟩ := h
    exact ⟨q1, q2, e, (hb q1 (lt_of_heap h1) h3).trans h1, (hb q2 (lt_of_heap h2) h4).trans h2, fun x => h3 (hX _ (lt_of_heap h1) x), fun x => h4 (hX _ (lt_of_heap h2) x)⟩
  | ren k n =>
    obtain ⟨q1, q2, e, h1, h2, h3, h4⟩ := h
    exact ⟨q1, q2, e, (hb q1 (lt_of_heap h1) h3).trans h1, (hb q2 (lt_of_heap h2) h4).trans h2, fun x => h3 (hX _ (lt_of_heap h1) x), fun x => h4 (hX _ (lt_of_heap h2) x)⟩
  | del k =>
    obtain ⟨q1, e, h1, h3⟩ := h
    exact ⟨q1, e, (hb q1 (lt_of_heap h1) h3).trans h1, fun x => h3 (hX _ (lt_of_heap h1) x)⟩

theorem mem_g (Y : Lay) : Y.g ∈ Y.blocks := by simp [Lay.blocks]
theorem mem_bn (Y : Lay) : Y.bn ∈ Y.rest := by simp [Lay.rest]
theorem mem_bs (Y : Lay) : Y.bs ∈ Y.rest := by simp [Lay.rest]
theorem mem_vf {Y : Lay} {b : Nat} (h : b ∈ ob Y.vf) : b ∈ Y.rest := by simp [Lay.rest, h]
theorem mem_vc {Y : Lay} {b : Nat} (h : b ∈ ob Y.vc) : b ∈ Y.rest := by simp [Lay.rest, h]
theorem mem_fs {Y : Lay} {i : Nat} {p : Nat × Value} (h : Y.fs[i]? = some p) : p.1 ∈ Y.rest := by
  have := List.mem_of_getElem? h
  simp only [Lay.rest, List.mem_cons, List.mem_append, List.mem_flatMap]
  exact .inr (.inr (.inr (.inr ⟨p, this, by simp [fb]⟩)))
theorem mem_fd {Y : Lay} {i : Nat} {p : Nat × Value} {b : Nat} (h : Y.fs[i]? = some p) (hb : b ∈ ob p.2) : b ∈ Y.rest := by
  have := List.mem_of_getElem? h
  simp only [Lay.rest, List.mem_cons, List.mem_append, List.mem_flatMap]
  exact .inr (.inr (.inr (.inr ⟨p, this, by simp [fb, hb]⟩)))
theorem in_blocks {Y : Lay} {b : Nat} (h : b ∈ Y.rest) : b ∈ Y.blocks := List.mem_cons_of_mem _ h
theorem DiskAt.ne_g {B : Nat} {w : World} {Y : Lay} {D : Dk} (h : DiskAt B w Y D) {b : Nat} (hb : b ∈ Y.rest) : b ≠ Y.g := by
  have := h.nodup
  rw [Lay.blocks, List.nodup_cons] at this
  intro e; subst e; exact this.1 hb

theorem row_kept {w w' : World} {B : Nat} {e : TypeId} {v : Value} {n : Nat} {xs : List Value} (h : w.ownsRow B e 1 v n xs) (hb : ∀ b ∈ ob v, b < w.heap.size → w'.heap[b]? = w.heap[b]?) : w'.ownsRow B e 1 v n xs := by
  obtain ⟨h1, h2 | ⟨g, cap, cur, rfl, a, b, c⟩⟩ := h
  · exact ⟨h1, .inl h2⟩
  · exact ⟨h1, .inr ⟨g, cap, cur, rfl, a, (hb g (by simp [ob, Value.ownBlock]) (lt_of_heap b)).trans b, c⟩⟩

/-- Nothing but the disk's own block has turned. -/
theorem DiskAt.scalars {B : Nat} {w w' : World} {Y : Lay} {D : Dk} (h : DiskAt B w Y D) (kn' kc' : Value) (D' : Dk) (hf : D'.files = D.files) (hn : D'.now = D.now) (hs : D'.safe = D.safe) (hc : D'.chs = D.chs)
    (hg : w'.heap[Y.g]? = some (.cells (cellsOf { Y with kn := kn', kc := kc' } D') 76)) (hsz : w.heap.size ≤ w'.heap.size) (hb : ∀ b, b < w.heap.size → b ≠ Y.g → w'.heap[b]? = w.heap[b]?)
    (hkn : KeepAt w' Y.blocks kn' D'.next.2) (hkc : KeepAt w' Y.blocks kc' D'.crash.2) : DiskAt B w' { Y with kn := kn', kc := kc' } D' := by
  have hx : ∀ b, b < w.heap.size → b ∉ Y.blocks → w'.heap[b]? = w.heap[b]? := fun b hlt hnb => hb b hlt (fun e => hnb (by rw [e]; exact mem_g Y))
  refine ⟨hg, ?_, ?_, ?_, ?_, ?_, ?_, hkn, hkc, ?_, h.nodup, h.base⟩
  · rw [hn]; exact ownsMap_block h.now (hb _ h.now.lt (h.ne_g (mem_bn Y)))
  · rw [hs]; exact ownsMap_block h.safe (hb _ h.safe.lt (h.ne_g (mem_bs Y)))
  · rw [hf]; exact row_kept h.files (fun b hm hlt => hb b hlt (h.ne_g (mem_vf hm)))
  · rw [hc]; exact row_kept h.chs (fun b hm hlt => hb b hlt (h.ne_g (mem_vc hm)))
  · intro i p f h1 h2
    rw [hf] at h2
    exact ⟨(hb _ (lt_of_heap (h.each i p f h1 h2).1) (h.ne_g (mem_fs h1))).trans (h.each i p f h1 h2).1, row_kept (h.each i p f h1 h2).2 (fun b hm hlt => hb b hlt (h.ne_g (mem_fd h1 hm)))⟩
  · intro i v c h1 h2
    rw [hc] at h2
    exact (h.clos i v c h1 h2).kept hx (fun _ _ x => x)
  · rw [hf]; exact h.lenF

/-- Nothing of the disk has turned. -/
theorem DiskAt.kept {B : Nat} {w w' : World} {Y : Lay} {D : Dk} (h : DiskAt B w Y D) (hs : w.heap.size ≤ w'.heap.size) (hb : ∀ b, b < w.heap.size → w'.heap[b]? = w.heap[b]?) : DiskAt B w' Y D := by
  have hrow : ∀ {e : TypeId} {v : Value} {n : Nat} {xs : List Value}, w.ownsRow B e 1 v n xs → w'.ownsRow B e 1 v n xs := fun {e v n xs} hr => by
    obtain ⟨h1, h2 | ⟨g, cap, cur, rfl, a, b, c⟩⟩ := hr
    · exact ⟨h1, .inl h2⟩
    · exact ⟨h1, .inr ⟨g, cap, cur, rfl, a, (hb g (lt_of_heap b)).trans b, c⟩⟩
  exact ⟨(hb _ (lt_of_heap h.disk)).trans h.disk, ownsMap_block h.now (hb _ h.now.lt), ownsMap_block h.safe (hb _ h.safe.lt), hrow h.files, hrow h.chs,
    fun i p f h1 h2 => ⟨(hb _ (lt_of_heap (h.each i p f h1 h2).1)).trans (h.each i p f h1 h2).1, hrow (h.each i p f h1 h2).2⟩,
    fun i v c h1 h2 => (h.clos i v c h1 h2).kept (fun b hlt _ => hb b hlt) (fun _ _ x => x), h.kn.kept hs (fun b hlt _ => hb b hlt) (fun _ _ x => x), h.kc.kept hs (fun b hlt _ => hb b hlt) (fun _ _ x => x), h.lenF, h.nodup, h.base⟩
theorem DiskAt.below {B : Nat} {w w' : World} {Y : Lay} {D : Dk} (h : DiskAt B w Y D) (hb : Below w.heap.size w w') : DiskAt B w' Y D := h.kept hb.size hb.block

theorem row_lt {w : World} {B : Nat} {e : TypeId} {v : Value} {n : Nat} {xs : List Value} (h : w.ownsRow B e 1 v n xs) : ∀ b ∈ ob v, b < w.heap.size := by
  obtain ⟨_, ⟨rfl, _⟩ | ⟨g, cap, cur, rfl, _, hh, _⟩⟩ := h
  · intro b hb; simp [ob, Value.ownBlock] at hb
  · intro b hb; simp [ob, Value.ownBlock] at hb; subst hb; exact lt_of_heap hh
theorem row_ge {w : World} {B : Nat} {e : TypeId} {v : Value} {n : Nat} {xs : List Value} (h : w.ownsRow B e 1 v n xs) : ∀ b ∈ ob v, B ≤ b := by
  obtain ⟨_, ⟨rfl, _⟩ | ⟨g, cap, cur, rfl, hg, _⟩⟩ := h
  · intro b hb; simp [ob, Value.ownBlock] at hb
  · intro b hb; simp [ob, Value.ownBlock] at hb; subst hb; exact hg
theorem ob_nodup (v : Value) : (ob v).Nodup := by
  unfold ob; cases v.ownBlock <;> simp

theorem DiskAt.lt {B : Nat} {w : World} {Y : Lay} {D : Dk} (h : DiskAt B w Y D) : ∀ b ∈ Y.blocks, b < w.heap.size := by
  intro b hb
  simp only [Lay.blocks, Lay.rest, List.mem_cons, List.mem_append, List.mem_flatMap] at hb
  rcases hb with rfl | rfl | rfl | hb | hb | ⟨p, hp, hb⟩
  · exact lt_of_heap h.disk
  · exact h.now.lt
  · exact h.safe.lt
  · exact row_lt h.files b hb
  · exact row_lt h.chs b hb
  · obtain ⟨i, hi, rfl⟩ := List.getElem_of_mem hp
    have h1 : Y.fs[i]? = some Y.fs[i] := List.getElem?_eq_getElem hi
    obtain ⟨f, hf⟩ : ∃ f, D.files[i]? = some f := ⟨_, List.getElem?_eq_getElem (by rw [← h.lenF]; exact hi)⟩
    obtain ⟨k1, k2⟩ := h.each i _ f h1 hf
    simp only [fb, List.mem_cons] at hb
    rcases hb with rfl | hb
    · exact lt_of_heap k1
    · exact row_lt k2 b hb

/-- One piece of a list of blocks put in another's place. -/
theorem nodup_swap {L1 M M' L2 : List Nat} {N : Nat} (h : (L1 ++ (M ++ L2)).Nodup) (hM : M'.Nodup) (hsub : ∀ x ∈ M', x ∈ M ∨ N ≤ x) (h1 : ∀ x ∈ L1, x < N) (h2 : ∀ x ∈ L2, x < N) : (L1 ++ (M' ++ L2)).Nodup := by
  rw [List.nodup_append] at h ⊢
  obtain ⟨a, b, c⟩ := h
  rw [List.nodup_append] at b ⊢
  obtain ⟨b1, b2, b3⟩ := b
  refine ⟨a, ⟨hM, b2, ?_⟩, ?_⟩
  · intro x hx y hy e
    subst e
    rcases hsub x hx with k | k
    · exact b3 x k x hy rfl
    · have := h2 x hy; omega
  · intro x hx y hy e
    subst e
    rcases List.mem_append.1 hy with k | k
    · rcases hsub x k with k | k
      · exact c x hx x (List.mem_append_left _ k) rfl
      · have := h1 x hx; omega
    · exact c x hx x (List.mem_append_right _ k) rfl
theorem nodup_apart {L1 M L2 : List Nat} (h : (L1 ++ (M ++ L2)).Nodup) {x : Nat} (hx : x ∈ L1 ∨ x ∈ L2) : x ∉ M := by
  rw [List.nodup_append] at h
  obtain ⟨a, b, c⟩ := h
  rw [List.nodup_append] at b
  intro hm
  rcases hx with k | k
  · exact c x k x (List.mem_append_left _ hm) rfl
  · exact b.2.2 x hm x k rfl

theorem split_at {α : Type} {l : List α} {i : Nat} {p : α} (h : l[i]? = some p) : ∃ A C, l = A ++ p :: C ∧ A.length = i ∧ ∀ p', l.set i p' = A ++ p' :: C := by
  have hi : i < l.length := (List.getElem?_eq_some_iff.1 h).1
  refine ⟨l.take i, l.drop (i + 1), ?_, by simp; omega, fun p' => ?_⟩
  · have : l.drop i = p :: l.drop (i + 1) := by rw [List.drop_eq_getElem_cons hi]; congr 1; exact Option.some.inj ((List.getElem?_eq_getElem hi).symm.trans h)
    rw [← this, List.take_append_drop]
  · rw [List.set_eq_take_append_cons_drop, if_pos hi]

/-- One file has turned: its cells, and its own row. -/
theorem DiskAt.fileSet {B : Nat} {w w' : World} {Y : Lay} {D : Dk} (h : DiskAt B w Y D) {i : Nat} {p : Nat × Value} {f : Fl} (hp : Y.fs[i]? = some p) (hf : D.files[i]? = some f) (v' : Value) (f' : Fl)
    (hsz : w.heap.size ≤ w'.heap.size) (hb : ∀ b, b < w.heap.size → b ∉ fb p → w'.heap[b]? = w.heap[b]?)
    (hc : w'.heap[p.1]? = some (.cells #[v', .int .i64 (f'.safe : Int)] 268)) (hr : w'.ownsRow B 5 1 v' f'.data.length (Lib.byteCells f'.data)) (hv : ∀ b ∈ ob v', b ∈ ob p.2 ∨ w.heap.size ≤ b) :
    DiskAt B w' { Y with fs := Y.fs.set i (p.1, v') } { D with files := D.files.set i f' } := by
  obtain ⟨A, C, e1, e2, e3⟩ := split_at hp
  have hi : i < D.files.length := (List.getElem?_eq_some_iff.1 hf).1
  let L1 : List Nat := Y.g :: Y.bn :: Y.bs :: (ob Y.vf ++ (ob Y.vc ++ A.flatMap fb))
  have hbl : Y.blocks = L1 ++ (fb p ++ C.flatMap fb) := by
    simp only [Lay.blocks, Lay.rest, e1, List.flatMap_append, List.flatMap_cons, L1, List.cons_append, List.append_assoc]
  have hbl' : ({ Y with fs := Y.fs.set i (p.1, v') } : Lay).blocks = L1 ++ (fb (p.1, v') ++ C.flatMap fb) := by
    simp only [Lay.blocks, Lay.rest, e3, List.flatMap_append, List.flatMap_cons, L1, List.cons_append, List.append_assoc]
  have hnd := h.nodup
  rw [hbl] at hnd
  have hlt := h.lt
  have hsub : ∀ x ∈ fb (p.1, v'), x ∈ fb p ∨ w.heap.size ≤ x := by
    intro x hx
    simp only [fb, List.mem_cons] at hx ⊢
    rcases hx with rfl | hx
    · exact .inl (.inl rfl)
    · exact (hv x hx).imp .inr id
  have hp1 : p.1 < w.heap.size := hlt _ (in_blocks (mem_fs hp))
  have hpo : p.1 ∉ ob p.2 := by
    have h1 : (fb p).Nodup := ((List.nodup_append.1 hnd).2.1 |> List.nodup_append.1).1
    rw [fb, List.nodup_cons] at h1
    exact h1.1
  have hMn : (fb (p.1, v')).Nodup := by
    rw [fb, List.nodup_cons]
    refine ⟨fun hm => ?_, ob_nodup v'⟩
    rcases hv _ hm with k | k
    · exact hpo k
    · omega
  have h1lt : ∀ x ∈ L1, x < w.heap.size := fun x hx => hlt x (by rw [hbl]; exact List.mem_append_left _ hx)
  have h2lt : ∀ x ∈ C.flatMap fb, x < w.heap.size := fun x hx => hlt x (by rw [hbl]; exact List.mem_append_right _ (List.mem_append_right _ hx))
  have same : ∀ x, x ∈ L1 ∨ x ∈ C.flatMap fb → w'.heap[x]? = w.heap[x]? := fun x hx => hb x (hx.elim (h1lt x) (h2lt x)) (nodup_apart hnd hx)
  have hX : ∀ b, b < w.heap.size → b ∈ ({ Y with fs := Y.fs.set i (p.1, v') } : Lay).blocks → b ∈ Y.blocks := by
    intro b hlt hm
    rw [hbl'] at hm
    rw [hbl]
    rcases List.mem_append.1 hm with k | k
    · exact List.mem_append_left _ k
    · rcases List.mem_append.1 k with k | k
      · rcases hsub b k with k | k
        · exact List.mem_append_right _ (List.mem_append_left _ k)
        · omega
      · exact List.mem_append_right _ (List.mem_append_right _ k)
  have hx : ∀ b, b < w.heap.size → b ∉ Y.blocks → w'.heap[b]? = w.heap[b]? := fun b hlt hnb => hb b hlt (fun hm => hnb (by rw [hbl]; exact List.mem_append_right _ (List.mem_append_left _ hm)))
  have hvfl : ∀ b ∈ ob Y.vf, b ∈ L1 := fun b hm => by simp [L1, hm]
  have hvcl : ∀ b ∈ ob Y.vc, b ∈ L1 := fun b hm => by simp [L1, hm]
  refine ⟨?_, ?_, ?_, ?_, ?_, ?_, ?_, h.kn.kept hsz hx hX, h.kc.kept hsz hx hX, by simpa using h.lenF, ?_, ?_⟩
  · rw [same Y.g (.inl (by simp [L1]))]; exact h.disk
  · exact ownsMap_block h.now (same _ (.inl (by simp [L1])))
  · exact ownsMap_block h.safe (same _ (.inl (by simp [L1])))
  · have e4 : (Y.fs.set i (p.1, v')).map (fun p => ptr p.1) = Y.fs.map fun p => ptr p.1 := by
      rw [e3, e1]; simp
    show w'.ownsRow B _ 1 Y.vf (D.files.set i f').length ((Y.fs.set i (p.1, v')).map fun p => ptr p.1)
    rw [e4, List.length_set]
    exact row_kept h.files (fun b hm _ => same b (.inl (hvfl b hm)))
  · exact row_kept h.chs (fun b hm _ => same b (.inl (hvcl b hm)))
  · intro k q f2 hk1 hk2
    by_cases hki : k = i
    · subst hki
      have a1 : (Y.fs.set k (p.1, v'))[k]? = some (p.1, v') := by rw [List.getElem?_set_self (List.getElem?_eq_some_iff.1 hp).1]
      have a2 : (D.files.set k f')[k]? = some f' := by rw [List.getElem?_set_self hi]
      obtain rfl := Option.some.inj (a1.symm.trans hk1)
      obtain rfl := Option.some.inj (a2.symm.trans hk2)
      exact ⟨hc, hr⟩
    · have hk1' : Y.fs[k]? = some q := by rw [← hk1]; exact (List.getElem?_set_ne (fun e => hki e.symm)).symm
      have hk2' : D.files[k]? = some f2 := by rw [← hk2]; exact (List.getElem?_set_ne (fun e => hki e.symm)).symm
      obtain ⟨b1, b2⟩ := h.each k q f2 hk1' hk2'
      have hqm : q ∈ A ∨ q ∈ C := by
        rw [e1] at hk1'
        by_cases hlt : k < A.length
        · rw [List.getElem?_append_left hlt] at hk1'; exact .inl (List.mem_of_getElem? hk1')
        · rw [List.getElem?_append_right (by omega)] at hk1'
          obtain ⟨d, hd⟩ : ∃ d, k - A.length = d + 1 := ⟨k - A.length - 1, by omega⟩
          rw [hd, List.getElem?_cons_succ] at hk1'
          exact .inr (List.mem_of_getElem? hk1')
      have hin : ∀ b ∈ fb q, b ∈ L1 ∨ b ∈ C.flatMap fb := by
        intro b hb'
        rcases hqm with k | k
        · left
          simp only [L1, List.mem_cons, List.mem_append, List.mem_flatMap]
          exact .inr (.inr (.inr (.inr (.inr ⟨q, k, hb'⟩))))
        · right; exact List.mem_flatMap.2 ⟨q, k, hb'⟩
      exact ⟨(same _ (hin _ (by simp [fb]))).trans b1, row_kept b2 (fun b hm _ => same b (hin b (by simp [fb, hm])))⟩
  · intro k v c hk1 hk2
    exact (h.clos k v c hk1 hk2).kept hx hX
  · rw [hbl']; exact nodup_swap hnd hMn hsub h1lt h2lt
  · intro b hm
    by_cases hlt' : b < w.heap.size
    · exact h.base b (hX b hlt' hm)
    · have := h.base Y.g (mem_g Y)
      have := h1lt Y.g (by simp [L1])
      omega
theorem blocks_set {Y : Lay} {i : Nat} {p : Nat × Value} (hp : Y.fs[i]? = some p) (v' : Value) : ∀ b ∈ ({ Y with fs := Y.fs.set i (p.1, v') } : Lay).blocks, b ∈ Y.blocks ∨ b ∈ ob v' := by
  intro b hb
  simp only [Lay.blocks, Lay.rest, List.mem_cons, List.mem_append, List.mem_flatMap] at hb ⊢
  rcases hb with h | h | h | h | h | ⟨q, hq, h⟩
  · exact .inl (.inl h)
  · exact .inl (.inr (.inl h))
  · exact .inl (.inr (.inr (.inl h)))
  · exact .inl (.inr (.inr (.inr (.inl h))))
  · exact .inl (.inr (.inr (.inr (.inr (.inl h)))))
  · rcases List.mem_or_eq_of_mem_set hq with k | rfl
    · exact .inl (.inr (.inr (.inr (.inr (.inr ⟨q, k, h⟩)))))
    · simp only [fb, List.mem_cons] at h
      rcases h with rfl | h
      · exact .inl (.inr (.inr (.inr (.inr (.inr ⟨p, List.mem_of_getElem? hp, by simp [fb]⟩)))))
      · exact .inr h
theorem DiskAt.fb_nodup {B : Nat} {w : World} {Y : Lay} {D : Dk} (h : DiskAt B w Y D) {i : Nat} {p : Nat × Value} (hp : Y.fs[i]? = some p) : (fb p).Nodup := by
  have hnd := h.nodup
  obtain ⟨A, C, e1, _, _⟩ := split_at hp
  have h2 : (Y.fs.flatMap fb).Nodup := by
    simp only [Lay.blocks, Lay.rest, List.nodup_cons, List.nodup_append] at hnd
    exact hnd.2.2.2.2.1.2.1
  rw [e1, List.flatMap_append, List.flatMap_cons] at h2
  exact (List.nodup_append.1 (List.nodup_append.1 h2).2.1).1
theorem DiskAt.fd_ne {B : Nat} {w : World} {Y : Lay} {D : Dk} (h : DiskAt B w Y D) {i : Nat} {p : Nat × Value} (hp : Y.fs[i]? = some p) : p.1 ∉ ob p.2 := by
  have := h.fb_nodup hp
  rw [fb, List.nodup_cons] at this
  exact this.1
end Go.Proofs.YthfnhhfobaocoaaGreatDoor.Dk
