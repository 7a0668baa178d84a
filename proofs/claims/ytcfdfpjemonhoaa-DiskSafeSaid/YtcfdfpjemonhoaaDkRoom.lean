/-
  DiskRoom's plain part: what a call may use, what a refused one leaves. No program stands in this text.
-/
import Derived.Test.YtcfdfpjemonhoaaDkAwake
namespace Go.Proofs.Ytcfdfpjemonhoaa.Dk
open Go.RowKit Go.Maps Go.WideMaps

/-- The law's four calls. -/
def roomN (D : Dk) (x : OpV) : Int × Dk :=
  if x.kind = 0 then create D x.name.data.toList
  else if x.kind = 1 then append D x.name.data.toList x.data.data.toList
  else if x.kind = 6 then rename D x.name.data.toList x.other.data.toList
  else if x.kind = 7 then remove D x.name.data.toList
  else (0, D)

/-- Nothing that is told has turned, nor what is used and may be. -/
structure Still (D D' : Dk) : Prop where
  files : D'.files = D.files
  now : D'.now = D.now
  quota : D'.quota = D.quota
  used : D'.used = D.used
theorem Still.refl (D : Dk) : Still D D := ⟨rfl, rfl, rfl, rfl⟩
theorem still_count (D : Dk) : Still D (count D).2 := by
  obtain ⟨q1, q2, q3, q4, _, _⟩ := count_now D
  exact ⟨q2, q1, q3, q4⟩
theorem still_openF (D : Dk) (x : List UInt8) : Still D (openF D x).2 := by rw [openF_count]; exact still_count D
theorem still_files {D D' : Dk} (h : Still D D') : filesN D' = filesN D := by
  unfold filesN
  rw [h.now]
  refine List.map_congr_left fun k _ => ?_
  unfold fileOf
  rw [h.now, h.files]
theorem same_refl (l : List Told) : Same l l := ⟨rfl, fun i t u h1 h2 => by obtain rfl := Option.some.inj (h1.symm.trans h2); exact ⟨rfl, rfl⟩⟩
theorem Still.same {D D' : Dk} (h : Still D D') : Same (filesN D) (filesN D') := by rw [still_files h]; exact same_refl _

theorem perm_sum {l l' : List Int} (h : l.Perm l') : l.sum = l'.sum := by
  induction h with
  | nil => rfl
  | cons x _ ih => rw [List.sum_cons, List.sum_cons, ih]
  | swap x y l => simp only [List.sum_cons]; omega
  | trans _ _ ih1 ih2 => rw [ih1, ih2]
theorem perm_of_get : ∀ {m : DM} {x : List UInt8} {n : Nat}, (m.map (·.1)).Nodup → (x, n) ∈ m → m.Perm ((x, n) :: delM m x)
  | [], _, _, _, h => by simp at h
  | q :: r, x, n, hnd, h => by
    rw [List.map_cons, List.nodup_cons] at hnd
    rcases List.mem_cons.1 h with e | h'
    · have hd : delM (q :: r) x = r := by
        show List.filter (fun p => !(p.1 == x)) (q :: r) = r
        rw [List.filter_cons_of_neg (by rw [← e]; simp), List.filter_eq_self]
        intro p hp
        simp only [Bool.not_eq_true', beq_eq_false_iff_ne, ne_eq]
        intro he
        exact hnd.1 (List.mem_map.2 ⟨p, hp, by rw [he, ← e]⟩)
      rw [hd, e]
    · have hne : ¬ q.1 = x := fun he => hnd.1 (List.mem_map.2 ⟨(x, n), h', he.symm⟩)
      have hd : delM (q :: r) x = q :: delM r x := by
        show List.filter (fun p => !(p.1 == x)) (q :: r) = _
        rw [List.filter_cons_of_pos (by simpa using hne)]; rfl
      rw [hd]
      exact ((perm_of_get hnd.2 h').cons q).trans (List.Perm.swap _ _ _)
theorem usedOf_perm {fs : List Fl} {m m' : DM} (h : m.Perm m') : usedOf fs m = usedOf fs m' := by
  unfold usedOf
  exact perm_sum (h.map _)
theorem usedOf_nonneg (fs : List Fl) : ∀ m : DM, 0 ≤ usedOf fs m
  | [] => by simp [usedOf]
  | p :: r => by
    have := usedOf_nonneg fs r
    unfold usedOf at *
    rw [List.map_cons, List.sum_cons]; omega
theorem usedOf_cons' (fs : List Fl) (p : List UInt8 × Nat) (r : DM) : usedOf fs (p :: r) = (fileLen fs p.2 : Int) + usedOf fs r := by unfold usedOf; rw [List.map_cons, List.sum_cons]
theorem usedOf_sub (fs : List Fl) {m m' : DM} (h : m.Sublist m') : usedOf fs m ≤ usedOf fs m' := by
  induction h with
  | slnil => exact Int.le_refl _
  | cons p _ ih => rw [usedOf_cons']; omega
  | cons_cons p _ ih => rw [usedOf_cons', usedOf_cons']; omega

/-- A call keeps within the room, and a refused one leaves all as it is told. -/
structure RoomOk (D : Dk) (r : Int × Dk) : Prop where
  quota : r.2.quota = D.quota
  used : D.used ≤ D.quota → r.2.used ≤ r.2.quota
  no : r.1 ≠ 0 → Same (filesN D) (filesN r.2)
theorem room_still {D D' : Dk} (e : Int) (h : Still D D') : RoomOk D (e, D') := ⟨h.quota, fun hu => by show D'.used ≤ D'.quota; rw [h.used, h.quota]; exact hu, fun _ => h.same⟩

theorem room_create {k : Nat} {D : Dk} {x : List UInt8} (h : Good (k + 2) D) : RoomOk D (create D x) := by
  have hc := good_count (k := k + 1) h
  have hs := still_count D
  have e0 : create D x = (let (e, D) := count D; if e ≠ 0 then (e, D) else if !label x then (10, D) else if (getM D.now x).isSome then (7, D) else if 4096 ≤ D.now.length then (3, D) else (0, turn (moreF D) (.put x D.files.length))) := rfl
  rw [e0]
  obtain ⟨⟨r, D'⟩, hcd⟩ : ∃ y, y = count D := ⟨_, rfl⟩
  rw [← hcd] at hc hs ⊢
  dsimp only at hc hs ⊢
  split
  · exact room_still _ hs
  split
  · exact room_still _ hs
  split
  · exact room_still _ hs
  split
  · exact room_still _ hs
  · next _ _ h3 _ =>
    have hg : getM D'.now x = none := by
      cases hq : getM D'.now x with
      | none => rfl
      | some n => rw [hq] at h3; simp at h3
    refine ⟨hs.quota, fun hu => ?_, fun h => absurd rfl h⟩
    show usedOf (D'.files ++ [⟨[], 0⟩]) (putM D'.now x D'.files.length) ≤ D'.quota
    rw [usedOf_perm (putM_perm _ _ _), usedOf_cons', delM_none hg, usedOf_more _ _ _ hc.ok.now, ← hc.ok.used, hs.used, hs.quota]
    have : fileLen (D'.files ++ [⟨[], 0⟩]) D'.files.length = 0 := by
      unfold fileLen
      rw [List.getElem?_append_right (Nat.le_refl _), Nat.sub_self]; rfl
    show (fileLen (D'.files ++ [⟨[], 0⟩]) D'.files.length : Int) + _ ≤ _
    rw [this]; omega
theorem room_append {k : Nat} {D : Dk} {x d : List UInt8} (h : Good (k + 1) D) : RoomOk D (append D x d) := by
  have hs := still_openF D x
  obtain ⟨⟨⟨o, e⟩, D'⟩, hcd⟩ : ∃ z, z = openF D x := ⟨_, rfl⟩
  unfold append
  rw [← hcd] at hs ⊢
  cases o with
  | none => exact room_still _ hs
  | some n =>
    dsimp only at hs ⊢
    split
    · exact room_still _ hs
    · split
      · exact room_still _ hs
      · next h1 h2 =>
        refine ⟨hs.quota, fun hu => ?_, fun h => absurd rfl h⟩
        show D'.used + (d.length : Int) ≤ D'.quota
        omega
theorem room_remove {k : Nat} {D : Dk} {x : List UInt8} (h : Good (k + 1) D) : RoomOk D (remove D x) := by
  have hs := still_openF D x
  have hc := good_openF (k := k) (x := x) h
  obtain ⟨⟨⟨o, e⟩, D'⟩, hcd⟩ : ∃ z, z = openF D x := ⟨_, rfl⟩
  unfold remove
  rw [← hcd] at hs hc ⊢
  cases o with
  | none => exact room_still _ hs
  | some n =>
    dsimp only at hs hc ⊢
    refine ⟨hs.quota, fun hu => ?_, fun h => absurd rfl h⟩
    show usedOf D'.files (delM D'.now x) ≤ D'.quota
    have := usedOf_sub D'.files (delM_sub D'.now x)
    have h1 := hc.ok.used
    have h2 := hs.used
    have h3 := hs.quota
    omega
theorem room_rename {k : Nat} {D : Dk} {x y : List UInt8} (h : Good (k + 1) D) : RoomOk D (rename D x y) := by
  have hs := still_openF D x
  have hc := good_openF (k := k) (x := x) h
  obtain ⟨⟨⟨o, e⟩, D'⟩, hcd⟩ : ∃ z, z = openF D x := ⟨_, rfl⟩
  unfold rename
  have hg0 := hcd
  rw [← hcd] at hs hc ⊢
  cases o with
  | none => exact room_still _ hs
  | some n =>
    have hg := openF_get hg0.symm
    dsimp only at hs hc ⊢
    split
    · exact room_still _ hs
    · split
      · exact room_still _ hs
      · next _ hne =>
        refine ⟨hs.quota, fun hu => ?_, fun h => absurd rfl h⟩
        show usedOf D'.files (delM (putM D'.now y ((getM D'.now x).getD 0)) x) ≤ D'.quota
        rw [hg]
        show usedOf D'.files (delM (putM D'.now y n) x) ≤ D'.quota
        rw [usedOf_perm (ren_perm hne), usedOf_cons']
        have hm := getM_mem hg
        have hp : D'.now.Perm ((x, n) :: delM D'.now x) := perm_of_get hc.dir.keys hm
        have h4 := usedOf_perm (fs := D'.files) hp
        rw [usedOf_cons'] at h4
        have h5 : usedOf D'.files (delM (delM D'.now y) x) ≤ usedOf D'.files (delM D'.now x) := usedOf_sub _ ((delM_sub D'.now y).filter _)
        have h1 := hc.ok.used
        have h2 := hs.used
        have h3 := hs.quota
        dsimp only at h4 ⊢
        omega

theorem room_op {k : Nat} {D : Dk} {x : OpV} (h : Good (k + 2) D) (hx : x.name.size ≤ maxLen) (hy : x.other.size ≤ maxLen) : Good k (roomN D x).2 ∧ RoomOk D (roomN D x) := by
  have h1 : x.name.data.toList.length ≤ maxLen := by rw [size_toList]; exact hx
  have h2 : x.other.data.toList.length ≤ maxLen := by rw [size_toList]; exact hy
  unfold roomN
  split
  · exact ⟨good_create h h1, room_create h⟩
  split
  · exact ⟨good_append (h.le (by omega)), room_append (k := k + 1) h⟩
  split
  · exact ⟨good_rename h h1 h2, room_rename (k := k + 1) h⟩
  split
  · exact ⟨good_remove h h1, room_remove (k := k + 1) h⟩
  · exact ⟨h.le (by omega), room_still _ (Still.refl D)⟩

/-- The bytes that are told. -/
theorem told_sum {k : Nat} {D : Dk} (h : Good k D) : ((filesN D).map fun t => (t.2.1.length : Int)).sum = D.used := by
  rw [h.ok.used]
  unfold filesN usedOf
  rw [List.map_map, perm_sum ((names_perm D.now).map _), List.map_map]
  congr 1
  refine List.map_congr_left fun p hp => ?_
  simp only [Function.comp, fileOf]
  rw [h.dir.get hp]
  unfold fileLen
  rw [Option.getD_some, List.getD]
  cases D.files[p.2]? <;> rfl
theorem told_length (D : Dk) : (filesN D).length = D.now.length := by rw [filesN, List.length_map, names_length]
theorem told_each {k : Nat} {D : Dk} (h : Good k D) : ∀ t ∈ filesN D, t.2.1.length ≤ 134217728 := by
  intro t ht
  obtain ⟨x, hx, rfl⟩ := List.mem_map.1 ht
  obtain ⟨n, hn⟩ := names_get hx
  have hf := fits_get h.ok.now hn
  unfold fileOf
  rw [hn]
  show (D.files.getD n ⟨[], 0⟩).data.length ≤ _
  have hg : D.files.getD n ⟨[], 0⟩ = D.files[n] := by rw [List.getD, List.getElem?_eq_getElem hf]; rfl
  rw [hg]
  exact (h.ok.lens _ (List.getElem_mem hf)).1
end Go.Proofs.Ytcfdfpjemonhoaa.Dk
