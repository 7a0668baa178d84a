/-
  A disk in the laws' walks: every call at one place, with the told rows that stand beside it.
-/
import Derived.Test.YtcfdfpjemonhoaaDkRoom
import Derived.Test.YtcfdfpjemonhoaaDkOps
namespace Go.Proofs.Ytcfdfpjemonhoaa.Dk
open Go.RowKit Go.Maps Go.WideMaps

theorem own_lt' {w : World} {B : Nat} {e : TypeId} {size : Nat} {v : Value} {n : Nat} {xs : List Value} (h : w.ownsRow B e size v n xs) : ∀ b ∈ ob v, b < w.heap.size := by
  obtain ⟨_, ⟨rfl, _⟩ | ⟨g, cap, cur, rfl, _, hh, _⟩⟩ := h
  · intro b hb; simp [ob, Value.ownBlock] at hb
  · intro b hb; simp [ob, Value.ownBlock] at hb; subst hb; exact lt_of_heap hh

/-- A disk at one place, in memory behind w1's. -/
structure Live (B : Nat) (w1 : World) (g0 : Nat) (w : World) (Y : Lay) (D : Dk) : Prop where
  at' : DiskAt B w Y D
  g : Y.g = g0
  below : Below B w1 w
  le : B ≤ w1.heap.size

/-- A told row beside the disk. -/
def Has (w : World) (Y : Lay) (v : Value) (l : List Told) : Prop := (∃ N0, w.ownsRow N0 38 3 v l.length (l.flatMap toldCells)) ∧ ∀ b ∈ ob v, b ∉ Y.blocks
theorem Has.row {w : World} {Y : Lay} {v : Value} {l : List Told} (h : Has w Y v l) : TRow w v l := by
  obtain ⟨⟨N0, h1⟩, _⟩ := h
  exact told_row h1
theorem Has.turn {w w' : World} {Y Y' : Lay} {v : Value} {l : List Told} (h : Has w Y v l) (ht : Turn Y.blocks w w') (hY : ∀ b ∈ Y'.blocks, b ∈ Y.blocks ∨ w.heap.size ≤ b) : Has w' Y' v l := by
  obtain ⟨⟨N0, h1⟩, h2⟩ := h
  have hl := own_lt' h1
  refine ⟨⟨N0, ownsRow_block h1 (fun b hb => ht.block b (hl b hb) (h2 b hb))⟩, fun b hb hy => ?_⟩
  rcases hY b hy with k | k
  · exact h2 b hb k
  · have := hl b hb; omega
theorem Has.below {w w' : World} {Y : Lay} {v : Value} {l : List Told} (h : Has w Y v l) (hb : Below w.heap.size w w') : Has w' Y v l := by
  obtain ⟨⟨N0, h1⟩, h2⟩ := h
  exact ⟨⟨N0, ownsRow_block h1 (fun b hm => hb.block b (own_lt' h1 b hm))⟩, h2⟩

/-- What a call of the disk leaves. -/
def LivePost (B : Nat) (w1 : World) (g0 : Nat) (w : World) (Y : Lay) (v : Value) (D' : Dk) (e : Ending) (w' : World) : Prop :=
  ∃ Y', e = .returned v ∧ Live B w1 g0 w' Y' D' ∧ ∀ u l, Has w Y u l → Has w' Y' u l
theorem Live.size {B : Nat} {w1 w : World} {g0 : Nat} {Y : Lay} {D : Dk} (h : Live B w1 g0 w Y D) : B ≤ w.heap.size := Nat.le_trans h.le h.below.size
theorem Live.turn {B : Nat} {w1 w w' : World} {g0 : Nat} {Y : Lay} {D : Dk} (h : Live B w1 g0 w Y D) {Y' : Lay} {D' : Dk} (hd : DiskAt B w' Y' D') (ht : Turn Y.blocks w w') (hg : Y'.g = Y.g) : Live B w1 g0 w' Y' D' :=
  ⟨hd, hg.trans h.g, h.below.trans (ht.below h.at'.base h.size), h.le⟩
theorem Live.call {B : Nat} {w1 w : World} {g0 : Nat} {Y : Lay} {D : Dk} (h : Live B w1 g0 w Y D) {f : FuncId} {args : Array Value} {v : Value} {D' : Dk} (hc : Calls Try.prog f args w (OpPost B Y w v D')) : Calls Try.prog f args w (LivePost B w1 g0 w Y v D') := by
  refine hc.mono ?_
  rintro e w' ⟨Y', rfl, hd, ht, hY, hg⟩
  exact ⟨Y', rfl, h.turn hd ht hg, fun u l hu => hu.turn ht hY⟩

theorem Live.files {B : Nat} {w1 w : World} {g0 k : Nat} {Y : Lay} {D : Dk} (h : Live B w1 g0 w Y D) (hg : Good k D) : Calls Try.prog 7 #[ptr g0] w fun e w' => ∃ v, e = .returned v ∧ Live B w1 g0 w' Y D ∧ Has w' Y v (filesN D) ∧ ∀ u l, Has w Y u l → Has w' Y u l := by
  have hc := files_any B w Y D h.at' hg.ok.now hg.ok.nnow
  rw [h.g] at hc
  refine hc.mono ?_
  rintro e w' ⟨v, rfl, hr, hb⟩
  refine ⟨v, rfl, ⟨h.at'.below hb, h.g, h.below.trans (hb.mono h.size), h.le⟩, ⟨⟨_, hr⟩, fun b hm hy => ?_⟩, fun u l hu => hu.below hb⟩
  have h1 := own_ge hr b (by simpa [ob] using hm)
  have h2 := h.at'.lt b hy
  omega
theorem Live.list {B : Nat} {w1 w : World} {g0 k : Nat} {Y : Lay} {D : Dk} (h : Live B w1 g0 w Y D) (hg : Good k D) : Calls Try.prog 16 #[ptr g0] w fun e w' => ∃ Y' v, e = .returned (.tuple #[v, .int .i64 (listN D).1.2]) ∧ Live B w1 g0 w' Y' (listN D).2 ∧ (w'.ownsRow w.heap.size 9 1 v (listN D).1.1.length ((listN D).1.1.map encStr)) ∧ ∀ u l, Has w Y u l → Has w' Y' u l := by
  have hc := list_any B w Y D h.at' hg.ok
  rw [h.g] at hc
  refine hc.mono ?_
  rintro e w' ⟨kc', v, rfl, hr, hd, ht⟩
  have ht' : Turn Y.blocks w w' := ht.mono (by simp [mem_g])
  exact ⟨{ Y with kc := kc' }, v, rfl, h.turn hd ht' rfl, hr, fun u l hu => hu.turn ht' (fun b hb => .inl hb)⟩
theorem Live.keep {B : Nat} {w1 w : World} {g0 : Nat} {Y : Lay} {D : Dk} (h : Live B w1 g0 w Y D) {v : Value} {ks : List Int} (hk : KeepAt w1 [] v ks) (hb : ∀ a n c, v = .slice (some a) n c → ks ≠ [] → a.block < B) : KeepAt w Y.blocks v ks := by
  obtain ⟨a, cap, rfl, hl, hc⟩ := hk
  refine ⟨a, cap, rfl, hl, fun hne => ?_⟩
  obtain ⟨b, o, rfl, hlt, _, hcell⟩ := hc hne
  have hbB : b < B := hb ⟨b, o, none⟩ _ _ rfl hne
  refine ⟨b, o, rfl, by have := h.size; omega, fun hm => by have := h.at'.base b hm; omega, fun j x hj => ?_⟩
  rw [World.cell?_of_block (a := ⟨b, o + j, none⟩) (h.below.block b hbB)]
  exact hcell j x hj

/-- Up, and nothing planned. -/
def Up (D : Dk) : Prop := D.down = false ∧ D.left = 0
theorem up_count {D : Dk} (h : Up D) : count D = (0, { D with calls := D.calls + 1, left := 0 }) := by
  unfold count
  rw [h.1]
  simp only [h.2]
  rfl
theorem Up.count {D : Dk} (h : Up D) : Up (Dk.count D).2 := by rw [up_count h]; exact ⟨h.1, rfl⟩
theorem Up.openF {D : Dk} (h : Up D) (x : List UInt8) : Up (Dk.openF D x).2 := by rw [openF_count]; exact h.count
theorem Up.create {D : Dk} (h : Up D) (x : List UInt8) : Up (Dk.create D x).2 := by
  have hc := h.count
  unfold Dk.create
  obtain ⟨⟨r, D'⟩, hcd⟩ : ∃ y, y = Dk.count D := ⟨_, rfl⟩
  rw [← hcd] at hc ⊢
  dsimp only at hc ⊢
  repeat' split
  all_goals exact hc
theorem Up.append {D : Dk} (h : Up D) (x d : List UInt8) : Up (Dk.append D x d).2 := by
  have hc := h.openF x
  unfold Dk.append
  obtain ⟨⟨⟨o, e⟩, D'⟩, hcd⟩ : ∃ z, z = Dk.openF D x := ⟨_, rfl⟩
  rw [← hcd] at hc ⊢
  cases o with
  | none => exact hc
  | some n =>
    dsimp only at hc ⊢
    repeat' split
    all_goals exact hc
theorem Up.sync {D : Dk} (h : Up D) (x : List UInt8) : Up (Dk.sync D x).2 := by
  have hc := h.openF x
  unfold Dk.sync
  obtain ⟨⟨⟨o, e⟩, D'⟩, hcd⟩ : ∃ z, z = Dk.openF D x := ⟨_, rfl⟩
  rw [← hcd] at hc ⊢
  cases o <;> exact hc
theorem Up.syncDir {D : Dk} (h : Up D) : Up (Dk.syncDir D).2 := by
  have hc := h.count
  unfold Dk.syncDir
  obtain ⟨⟨r, D'⟩, hcd⟩ : ∃ y, y = Dk.count D := ⟨_, rfl⟩
  rw [← hcd] at hc ⊢
  dsimp only at hc ⊢
  split <;> exact hc
theorem Up.rename {D : Dk} (h : Up D) (x y : List UInt8) : Up (Dk.rename D x y).2 := by
  have hc := h.openF x
  unfold Dk.rename
  obtain ⟨⟨⟨o, e⟩, D'⟩, hcd⟩ : ∃ z, z = Dk.openF D x := ⟨_, rfl⟩
  rw [← hcd] at hc ⊢
  cases o with
  | none => exact hc
  | some n =>
    dsimp only at hc ⊢
    repeat' split
    all_goals exact hc
theorem Up.remove {D : Dk} (h : Up D) (x : List UInt8) : Up (Dk.remove D x).2 := by
  have hc := h.openF x
  unfold Dk.remove
  obtain ⟨⟨⟨o, e⟩, D'⟩, hcd⟩ : ∃ z, z = Dk.openF D x := ⟨_, rfl⟩
  rw [← hcd] at hc ⊢
  cases o <;> exact hc
theorem Up.corrupt {D : Dk} (h : Up D) (x d : List UInt8) (a : Int) : Up (Dk.corrupt D x a d).2 := by
  unfold Dk.corrupt
  split
  · exact h
  · split
    · exact h
    · dsimp only; split <;> exact h
theorem Up.do {D : Dk} (h : Up D) (x : OpV) : Up (doN D x) := by
  unfold doN
  repeat' split
  · exact h.create _
  · exact h.append _ _
  · exact h.sync _
  · exact h.syncDir
  · exact h.rename _ _
  · exact h.remove _
  · exact h.corrupt _ _ _
  · exact h
theorem good_do {k : Nat} {D : Dk} {x : OpV} (h : Good (k + 2) D) (hx : x.name.size ≤ maxLen) (hy : x.other.size ≤ maxLen) : Good k (doN D x) := by
  have h1 : x.name.data.toList.length ≤ maxLen := by rw [size_toList]; exact hx
  have h2 : x.other.data.toList.length ≤ maxLen := by rw [size_toList]; exact hy
  unfold doN
  repeat' split
  · exact good_create h h1
  · exact good_append (h.le (by omega))
  · exact good_sync (h.le (by omega))
  · exact good_syncDir (h.le (by omega))
  · exact good_rename h h1 h2
  · exact good_remove h h1
  · exact good_corrupt (h.le (by omega))
  · exact h.le (by omega)

/-- Down. -/
theorem down_count {D : Dk} (h : D.down = true) : count D = (8, D) := by unfold count; rw [h]; rfl
theorem down_openF {D : Dk} (h : D.down = true) (x : List UInt8) : openF D x = ((none, 8), D) := by unfold openF; rw [down_count h]; rfl
theorem down_create {D : Dk} (h : D.down = true) (x : List UInt8) : create D x = (8, D) := by unfold create; rw [down_count h]; rfl
theorem down_append {D : Dk} (h : D.down = true) (x d : List UInt8) : append D x d = (8, D) := by unfold append; rw [down_openF h]
theorem down_size {D : Dk} (h : D.down = true) (x : List UInt8) : size D x = ((0, 8), D) := by unfold size; rw [down_openF h]
theorem down_sync {D : Dk} (h : D.down = true) (x : List UInt8) : sync D x = (8, D) := by unfold sync; rw [down_openF h]
theorem down_syncDir {D : Dk} (h : D.down = true) : syncDir D = (8, D) := by unfold syncDir; rw [down_count h]; rfl
theorem down_rename {D : Dk} (h : D.down = true) (x y : List UInt8) : rename D x y = (8, D) := by unfold rename; rw [down_openF h]
theorem down_remove {D : Dk} (h : D.down = true) (x : List UInt8) : remove D x = (8, D) := by unfold remove; rw [down_openF h]
theorem down_corrupt {D : Dk} (h : D.down = true) (x d : List UInt8) (a : Int) : corrupt D x a d = (8, D) := by unfold corrupt; rw [h]; rfl
theorem down_pull {D : Dk} (h : D.down = true) (c : Int × List Int) : pull D c = (8, D) := by unfold pull; rw [h]; rfl
theorem down_do {D : Dk} (h : D.down = true) (x : OpV) : doN D x = D := by
  unfold doN
  repeat' split
  all_goals first | rw [down_create h] | rw [down_append h] | rw [down_sync h] | rw [down_syncDir h] | rw [down_rename h] | rw [down_remove h] | rw [down_corrupt h] | rfl

def OpX.w (x : OpX) : OpV := ⟨x.kind, x.name, x.other, x.data, x.a⟩
def OpX.val (x : OpX) : Value := .agg #[.int .i64 x.kind, .string x.name, .string x.other, .string x.data, .int .i64 x.a, .int .i64 x.b, .int .i64 x.c, .slice x.ka x.kn x.kc]
theorem Live.do {B : Nat} {w1 w : World} {g0 k : Nat} {Y : Lay} {D : Dk} (h : Live B w1 g0 w Y D) (hg : Good (k + 2) D) (x : OpX) (hx : x.Fits) : Calls Try.prog 15 #[ptr g0, x.val] w (LivePost B w1 g0 w Y (.tuple #[]) (doN D x.w)) := by
  have hc := do_any B w Y D x.w x.b x.c x.ka x.kn x.kc hx.name hx.other hx.data h.at' hg.ok (by have := hg.bcalls; omega) (by have := hg.bfiles; omega)
  rw [h.g] at hc
  exact h.call hc
end Go.Proofs.Ytcfdfpjemonhoaa.Dk
