/-
  The contract of the disk's open.
-/
import Derived.Test.YthfnhhfobaocoaaGreatDoorDkCount
import Derived.StringKeys
namespace Go.Proofs.YthfnhhfobaocoaaGreatDoor.Dk
open Go.RowKit Go.Maps Go.WideMaps

set_option maxRecDepth 100000 in
theorem look_run {w : World} {b n : Nat} {m : DM} (h : w.ownsMap Tryz.prog 9 (plainElem Tryz.prog 3) b n (toD m)) (S : ByteArray) (hS : S.size ≤ maxLen) :
    (Instr.lookup 69 (.map (some b)) (.string S) true).run Tryz.prog w = .ok (.tuple #[.int .i64 (((getM m S.data.toList).getD 0 : Nat) : Int), .bool (getM m S.data.toList).isSome]) w := by
  obtain ⟨v, ps, hr, hv⟩ := h.look_ok law Tryz.underlying69 (zeroInt w) (plainElem_int Tryz.underlying3 (by decide)) (keyOf_string_mk Tryz.underlying9 hS)
  obtain ⟨a, rfl, hz, _⟩ := plainElem_int_inv Tryz.underlying3 hv
  rw [toD_at] at hz
  have e := congrArg Prod.fst hz
  dsimp only at e
  injection e with e
  injection e with _ e
  rw [hr, toD_has, e]

set_option maxRecDepth 100000 in
theorem look_run1 {w : World} {b n : Nat} {m : DM} (h : w.ownsMap Tryz.prog 9 (plainElem Tryz.prog 3) b n (toD m)) (S : ByteArray) (hS : S.size ≤ maxLen) :
    (Instr.lookup 69 (.map (some b)) (.string S) false).run Tryz.prog w = .ok (.int .i64 (((getM m S.data.toList).getD 0 : Nat) : Int)) w := by
  obtain ⟨v, hr, ps, hv⟩ : ∃ v, (Instr.lookup 69 (.map (some b)) (.string S) false).run Tryz.prog w = .ok v w ∧ ∃ ps, plainElem Tryz.prog 3 v = some ((toD m).atKey (.string S.data.toList) (.lit (.int .i64 0)), ps) := by
    obtain ⟨es, clock, hb, F, _, hD⟩ := h
    rw [hD]
    rcases Maps.fit_look false law Tryz.underlying69 (zeroInt w) hb F (keyOf_string_mk Tryz.underlying9 hS) with ⟨hrun, _, hat⟩ | ⟨e0, y, _, _, hrun, hRv, hat, _⟩
    · exact ⟨_, hrun, [], by rw [hat]; exact plainElem_int Tryz.underlying3 (by decide)⟩
    · exact ⟨_, hrun, y.2, by rw [hat]; exact hRv⟩
  obtain ⟨a, rfl, hz, _⟩ := plainElem_int_inv Tryz.underlying3 hv
  rw [toD_at] at hz
  have e := congrArg Prod.fst hz
  dsimp only at e
  injection e with e
  injection e with _ e
  rw [hr, e]

/-- Every number that the disk names is a file's. -/
def fits (n : Nat) (m : DM) : Prop := ∀ p ∈ m, p.2 < n
def Ch.fits (n : Nat) : Ch → Prop
  | .put _ k => k < n
  | .ren _ _ => 0 < n
  | .del _ => True
structure Ok (D : Dk) : Prop where
  now : fits D.files.length D.now
  safe : fits D.files.length D.safe
  chs : ∀ c ∈ D.chs, c.fits D.files.length
  calls : D.calls ≤ 1000000
  left : D.left ≤ 1073741824
  nfiles : D.files.length ≤ 1000000
  nchs : D.chs.length ≤ 1000000
  nnow : D.now.length ≤ 4096
  lens : ∀ f ∈ D.files, f.data.length ≤ 134217728 ∧ f.safe ≤ f.data.length
  quota : 0 ≤ D.quota ∧ D.quota ≤ 1099511627776
  used : D.used = usedOf D.files D.now

theorem getM_mem {m : DM} {k : List UInt8} {n : Nat} (h : getM m k = some n) : (k, n) ∈ m := by
  rw [getM] at h
  obtain ⟨p, hp, rfl⟩ := Option.map_eq_some_iff.1 h
  have h1 := List.mem_of_find?_eq_some hp
  have h2 := List.find?_some hp
  have : p.1 = k := by simpa using h2
  subst this; exact h1
theorem fits_get {n : Nat} {m : DM} (h : fits n m) {k : List UInt8} {i : Nat} (hk : getM m k = some i) : i < n := h _ (getM_mem hk)

theorem count_now (D : Dk) : (count D).2.now = D.now ∧ (count D).2.files = D.files ∧ (count D).2.quota = D.quota ∧ (count D).2.used = D.used ∧ (count D).2.safe = D.safe ∧ (count D).2.chs = D.chs := by
  unfold count
  split
  · exact ⟨rfl, rfl, rfl, rfl, rfl, rfl⟩
  · dsimp only; split <;> exact ⟨rfl, rfl, rfl, rfl, rfl, rfl⟩

theorem file_cell {B : Nat} {w : World} {Y : Lay} {D : Dk} (h : DiskAt B w Y D) {i : Nat} {p : Nat × Value} (hi : Y.fs[i]? = some p) :
    ∃ g cap cur, Y.vf = .slice (some ⟨g, 0, none⟩) D.files.length cap ∧ w.heap[g]? = some (.cells cur 170) ∧ cur[i]? = some (ptr p.1) := by
  obtain ⟨h1, ⟨_, h2⟩ | ⟨g, cap, cur, e, hg, hh, hn, hc, hs, ht⟩⟩ := h.files
  · have := (List.getElem?_eq_some_iff.1 hi).1
    have := h.lenF; omega
  · refine ⟨g, cap, cur, e, hh, ?_⟩
    have hi' : i < Y.fs.length := (List.getElem?_eq_some_iff.1 hi).1
    have hl := h.lenF
    have := congrArg (fun l => l[i]?) ht
    simp only [Nat.mul_one] at this
    rw [List.getElem?_take_of_lt (by omega), Array.getElem?_toList, List.getElem?_map, hi] at this
    exact this

/-- What open answers. -/
def OpenPost (B : Nat) (Y : Lay) (w : World) (r : (Option Nat × Int) × Dk) (e : Ending) (w' : World) : Prop :=
  ∃ kc', e = .returned (.tuple #[match r.1.1 with | none => .pointer none | some n => ptr ((Y.fs.getD n (0, .nilIface)).1), .int .i64 r.1.2]) ∧ DiskAt B w' { Y with kc := kc' } r.2 ∧ Turn [Y.g] w w'

set_option maxHeartbeats 2000000 in
set_option maxRecDepth 100000 in
theorem open_any (B : Nat) (w : World) (Y : Lay) (D : Dk) (S : ByteArray) (hS : S.size ≤ maxLen) (h : DiskAt B w Y D) (ok : Ok D) :
    Calls Tryz.prog 79 #[ptr Y.g, .string S] w (OpenPost B Y w (openF D S.data.toList)) := by
  have C := Lib.hid (count_any B w Y D h ok.calls ok.left)
  obtain ⟨q1, q2, _⟩ := count_now D
  have OKF := Lib.hid ok.now
  have e0 : openF D S.data.toList = (let (e, D) := count D; if e ≠ 0 then ((none, e), D) else match getM D.now S.data.toList with | none => ((none, 6), D) | some n => ((some n, 0), D)) := rfl
  clear ok h
  obtain ⟨⟨r, D'⟩, hcd⟩ : ∃ x, x = count D := ⟨_, rfl⟩
  rw [← hcd] at q1 q2 e0 C
  dsimp only at q1 q2 e0
  obtain ⟨R, hR⟩ : ∃ R, R = openF D S.data.toList := ⟨_, rfl⟩
  rw [← hR] at e0 ⊢
  have E0 := Lib.hid e0
  clear e0 hcd hR
  go_enter Tryz.func79, Tryz.ntmps79
  go_wp2_with fail
  refine C.out.mono ?_
  rintro e w1 ⟨kc', rfl, h1, ht⟩
  dsimp only at h1
  by_cases hr : r = 0
  · subst hr
    have c3 : w1.cell? ⟨Y.g, 3, none⟩ = some (.map (some Y.bn)) := h1.cell 3
    have c2 : w1.cell? ⟨Y.g, 2, none⟩ = some Y.vf := h1.cell 2
    have hlk := look_run h1.now S hS
    cases hg : getM D'.now S.data.toList with
    | none =>
      rw [hg] at hlk
      have ER : Hid (R = ((none, 6), D')) := Lib.hid (by rw [E0.out, if_neg (by simp), hg])
      have H1 := Lib.hid h1; have HT := Lib.hid ht
      clear h1 ht C hg
      go_wp2
      go_ret2
      rw [ER.out]
      exact ⟨kc', rfl, H1.out, HT.out⟩
    | some n =>
      rw [hg] at hlk
      have ER : Hid (R = ((some n, 0), D')) := Lib.hid (by rw [E0.out, if_neg (by simp), hg])
      have hn : n < Y.fs.length := by rw [h1.lenF, q2]; exact fits_get OKF.out (by rw [← q1]; exact hg)
      obtain ⟨p, hp⟩ : ∃ p, Y.fs[n]? = some p := ⟨_, List.getElem?_eq_getElem hn⟩
      obtain ⟨gf, cap, cur, hvf, hgf, hcur⟩ := file_cell h1 hp
      have hvf' : Y.vf = .slice (some ⟨gf, 0, none⟩) D'.files.length cap := hvf
      rw [hvf'] at c2
      have hcf : w1.cell? ⟨gf, n, none⟩ = some (ptr p.1) := by rw [cell_of_heap hgf]; exact hcur
      have hni : (n : Int) < (D'.files.length : Int) := by have := h1.lenF; dsimp only at this; omega
      have hgd : Y.fs.getD n (0, .nilIface) = p := by rw [List.getD, hp]; rfl
      have H1 := Lib.hid h1; have HT := Lib.hid ht; have HGD := Lib.hid hgd
      unfold ptr at hcf
      clear h1 ht C hg hgd hvf hvf' hgf hcur hp q1 q2
      go_wp2
      go_ret2
      rw [ER.out]
      refine ⟨kc', ?_, H1.out, HT.out⟩
      dsimp only
      rw [HGD.out]; rfl
  · have hri : (r == 0) = false := by simpa using hr
    have ER : Hid (R = ((none, r), D')) := Lib.hid (by rw [E0.out, if_pos hr])
    have H1 := Lib.hid h1; have HT := Lib.hid ht
    clear h1 ht C hr
    go_wp2
    go_ret2
    rw [ER.out]
    exact ⟨kc', rfl, H1.out, HT.out⟩
end Go.Proofs.YthfnhhfobaocoaaGreatDoor.Dk
