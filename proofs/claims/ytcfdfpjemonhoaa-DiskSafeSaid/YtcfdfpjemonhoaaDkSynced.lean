/-
  DiskSafe's loop that makes each named file safe, as plain values. No program stands in this text.
-/
import Derived.Test.YtcfdfpjemonhoaaDkSafe
namespace Go.Proofs.Ytcfdfpjemonhoaa.Dk
open Go.RowKit Go.Maps Go.WideMaps

/-- The first j names' files are safe whole. -/
structure Synced (E : Dk) (j : Nat) (D : Dk) : Prop where
  now : D.now = E.now
  done : ∀ i, i < j → ∀ x n f, (names E.now)[i]? = some x → (x, n) ∈ D.now → D.files[n]? = some f → f.safe = f.data.length
theorem Synced.start (E : Dk) : Synced E 0 E := ⟨rfl, fun i hi => by omega⟩
theorem up_sync {D : Dk} {k : Nat} (hu : Up D) (hg : Good (k + 1) D) {x : List UInt8} {n : Nat} (hx : getM D.now x = some n) : ∃ f, D.files[n]? = some f ∧ sync D x = (0, putFile (count D).2 n { f with safe := f.data.length }) := by
  have hn := fits_get hg.ok.now hx
  have hf : D.files[n]? = some D.files[n] := List.getElem?_eq_getElem hn
  refine ⟨_, hf, ?_⟩
  have e1 : openF D x = ((some n, 0), (count D).2) := by
    unfold openF
    rw [up_count hu]
    simp [hx]
  unfold sync
  rw [e1]
  have e2 : (count D).2.files = D.files := (count_now D).2.1
  have hg' : (count D).2.files.getD n ⟨[], 0⟩ = D.files[n] := by rw [e2, List.getD, hf]; rfl
  dsimp only
  rw [hg']
theorem Synced.next {E D : Dk} {j k : Nat} (h : Synced E j D) (hu : Up D) (hg : Good (k + 1) D) {x : List UInt8} (hx : (names E.now)[j]? = some x) : (sync D x).1 = 0 ∧ Synced E (j + 1) (sync D x).2 := by
  obtain ⟨n, hn⟩ := names_get (List.mem_of_getElem? hx)
  rw [← h.now] at hn
  obtain ⟨f, hf, e⟩ := up_sync hu hg hn
  have hlt : n < D.files.length := (List.getElem?_eq_some_iff.1 hf).1
  rw [e]
  have hc := count_now D
  refine ⟨rfl, hc.1.trans h.now, fun i hi y m g hy hm hgm => ?_⟩
  have hm' : (y, m) ∈ D.now := by have := hm; rw [show (putFile (count D).2 n { f with safe := f.data.length }).now = D.now from hc.1] at this; exact this
  have hgm' : (D.files.set n { f with safe := f.data.length })[m]? = some g := by
    have := hgm
    rw [show (putFile (count D).2 n { f with safe := f.data.length }).files = (count D).2.files.set n { f with safe := f.data.length } from rfl, hc.2.1] at this
    exact this
  by_cases hmn : m = n
  · subst hmn
    rw [List.getElem?_set_self hlt] at hgm'
    obtain rfl := Option.some.inj hgm'
    rfl
  · rw [List.getElem?_set_ne (fun q => hmn q.symm)] at hgm'
    by_cases hij : i < j
    · exact h.done i hij y m g hy hm' hgm'
    · obtain rfl : i = j := by omega
      obtain rfl := Option.some.inj (hx.symm.trans hy)
      have := hg.dir.get hm'
      rw [hn] at this
      exact absurd (Option.some.inj this).symm hmn
theorem Synced.all {E D : Dk} {j : Nat} (h : Synced E j D) (hj : (names E.now).length ≤ j) : AllSafe D := by
  intro p hp f hf
  have hm : p.1 ∈ names E.now := (names_perm E.now).mem_iff.2 (List.mem_map.2 ⟨p, by rw [← h.now]; exact hp, rfl⟩)
  obtain ⟨i, hi, he⟩ := List.getElem_of_mem hm
  exact h.done i (by omega) p.1 p.2 f (by rw [List.getElem?_eq_getElem hi, he]) hp hf

/-- The directory made safe. -/
theorem up_syncDir {D : Dk} (hu : Up D) : syncDir D = (0, { (count D).2 with safe := D.now, chs := [] }) := by
  unfold syncDir
  rw [up_count hu]; rfl

/-- A told string row beside the disk. -/
def HasS (w : World) (Y : Lay) (v : Value) (l : List (List UInt8)) : Prop := (∃ N0, w.ownsRow N0 9 1 v l.length (l.map encStr)) ∧ ∀ b ∈ ob v, b ∉ Y.blocks
theorem HasS.turn {w w' : World} {Y Y' : Lay} {v : Value} {l : List (List UInt8)} (h : HasS w Y v l) (ht : Turn Y.blocks w w') (hY : ∀ b ∈ Y'.blocks, b ∈ Y.blocks ∨ w.heap.size ≤ b) : HasS w' Y' v l := by
  obtain ⟨⟨N0, h1⟩, h2⟩ := h
  have hl := own_lt' h1
  refine ⟨⟨N0, ownsRow_block h1 (fun b hb => ht.block b (hl b hb) (h2 b hb))⟩, fun b hb hy => ?_⟩
  rcases hY b hy with k | k
  · exact h2 b hb k
  · have := hl b hb; omega
theorem Live.callS {B : Nat} {w1 w : World} {g0 : Nat} {Y : Lay} {D : Dk} (h : Live B w1 g0 w Y D) {f : FuncId} {args : Array Value} {v : Value} {D' : Dk} (hc : Calls Try.prog f args w (OpPost B Y w v D')) :
    Calls Try.prog f args w fun e w' => ∃ Y', e = .returned v ∧ Live B w1 g0 w' Y' D' ∧ ∀ u l, HasS w Y u l → HasS w' Y' u l := by
  refine hc.mono ?_
  rintro e w' ⟨Y', rfl, hd, ht, hY, hg⟩
  exact ⟨Y', rfl, h.turn hd ht hg, fun u l hu => hu.turn ht hY⟩
theorem Live.listS {B : Nat} {w1 w : World} {g0 k : Nat} {Y : Lay} {D : Dk} (h : Live B w1 g0 w Y D) (hg : Good k D) : Calls Try.prog 16 #[ptr g0] w fun e w' => ∃ Y' v, e = .returned (.tuple #[v, .int .i64 (listN D).1.2]) ∧ Live B w1 g0 w' Y' (listN D).2 ∧ HasS w' Y' v (listN D).1.1 := by
  have hc := list_any B w Y D h.at' hg.ok
  rw [h.g] at hc
  refine hc.mono ?_
  rintro e w' ⟨kc', v, rfl, hr, hd, ht⟩
  have ht' : Turn Y.blocks w w' := ht.mono (by simp [mem_g])
  refine ⟨{ Y with kc := kc' }, v, rfl, h.turn hd ht' rfl, ⟨_, hr⟩, fun b hb hy => ?_⟩
  have h1 := row_ge hr b hb
  have h2 := h.at'.lt b hy
  omega

/-- The disk's life up to the first crash: all is safe, and told. -/
theorem good_more {k : Nat} {D : Dk} {x : OpV} (h : Good (k + 2) D) (hx : x.name.size ≤ maxLen) (hy : x.other.size ≤ maxLen) : Good k (moreN D x) := by
  unfold moreN
  split
  · exact good_do h hx hy
  · exact h.le (by omega)
theorem Up.more {D : Dk} (h : Up D) (x : OpV) : Up (moreN D x) := by
  unfold moreN
  split
  · exact h.do x
  · exact h
/-- A crash's row in a new block. -/
theorem keep_new {w8 w10 : World} {X : List Nat} {ks : List Int} {g10 cap10 : Nat} (hX : ∀ b ∈ X, b < w8.heap.size) (hne : ks ≠ []) (hl : ks.length ≤ 17592186044416) (hown : w10.ownsRow w8.heap.size 3 1 (.slice (some ⟨g10, 0, none⟩) ks.length cap10) ks.length (ks.map (Value.int .i64))) : KeepAt w10 X (.slice (some ⟨g10, 0, none⟩) ks.length cap10) ks := by
  obtain ⟨g, cap, hv, hg, hB, hc⟩ := row_cells hown (fun e => hne (List.length_eq_zero_iff.1 e))
  injection hv with z1 _ z3
  injection z1 with z1
  injection z1 with z1
  subst z1
  refine ⟨_, _, rfl, hl, fun _ => ⟨g10, 0, rfl, hg, fun hm => ?_, fun j x hj => ?_⟩⟩
  · have := hX _ hm; omega
  · rw [Nat.zero_add]; exact hc j _ (by rw [List.getElem?_map, hj]; rfl)
theorem made_le (w : World) (o : Obj) : w.heap.size ≤ (w.alloc o).drew.heap.size := by
  show w.heap.size ≤ (w.alloc o).heap.size
  rw [one_size]
  exact Nat.le_succ _
theorem made_below {w8 w10 : World} {o : Obj} {n c : Nat} (hg : (w8.alloc o).drew.grownBy w10 (Value.slice (some ⟨w8.heap.size, 0, none⟩) n c).ownBlock) : Below w8.heap.size w8 w10 := by
  have h1 : Below w8.heap.size w8 (w8.alloc o).drew := ((Below.refl _ w8).alloc (Nat.le_refl _) _).drew
  exact h1.grown hg (made_le w8 o) (fun k hk => by
    have : w8.heap.size = k := Option.some.inj hk
    omega)
/-- Nothing appended to a row without room. -/
theorem run_append_zero {P : Program} (w : World) (t ty e : TypeId) (i : TypeInfo) (ht : P.underlying t = some (.slice e)) (hi : P.info? e = some i) (b : Addr) (va : Option Addr) (n c : Nat) (hn : n = 0) :
    (Builtin.append_ #[t, t] ty #[.slice (some b) 0 0, .slice va n c]).run P w = .ok (.slice (some b) 0 0) w := by
  subst hn
  have hf : (Builtin.firstCells i.size 0 (.slice va 0 c)).run P w = .ok #[] w := by
    cases va with
    | none => rfl
    | some a => exact run_firstCells_some (P := P) w i.size 0 a 0 c [] (by simp) (fun j v hj => by simp at hj)
  simp [Builtin.append_, run_underlying ht, sizeOf, typeInfo, hi, Builtin.lenOf, hf, storeCells]
theorem step_append_zero {P : Program} {w : World} {ops : Array Oper} {o : Oper} {a : Act} {K : Act → World → Prop} {Q : Exit → Act → World → Prop} {E : Prop} (hgd : o.guard = none) (s x : Operand) (t : TypeId)
    (ho : o.op = .call { callee := .builtin .append, args := #[s, x], argTypes := #[t, t] })
    (e : TypeId) (i : TypeInfo) (ht : P.underlying t = some (.slice e)) (hi : P.info? e = some i) (b : Addr) (va : Option Addr) (n c : Nat) (hn : n = 0) (hs : a.eval s = .slice (some b) 0 0) (hx : a.eval x = .slice va n c)
    (h : K (a.put o.dst (.slice (some b) 0 0)) w) : if Region.wanted o (yielded ops a.tmps) = true then Oper.wp P o a w K Q else E := by
  have hw : Region.wanted o (yielded ops a.tmps) = true := by simp [Region.wanted, hgd]
  rw [if_pos hw]
  have hr := run_append_zero (P := P) w t o.type e i ht hi b va n c hn
  unfold Oper.wp execOp
  simp only [ho, resolve, invoke, builtin, Sem.run_bind, Sem.run_pure, Result.andThen_ok, List.map_toArray, List.map_cons, List.map_nil, hs, hx, hr]
  exact h
end Go.Proofs.Ytcfdfpjemonhoaa.Dk
