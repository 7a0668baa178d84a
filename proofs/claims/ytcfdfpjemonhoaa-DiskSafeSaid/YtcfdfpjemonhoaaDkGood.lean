/-
  What every call keeps of a plain disk. No program stands in this text.
-/
import Derived.Test.YtcfdfpjemonhoaaDkBegins
namespace Go.Proofs.Ytcfdfpjemonhoaa.Dk
open Go.RowKit Go.Maps Go.WideMaps

/-- A directory as it should be. -/
structure DirOk (m : DM) : Prop where
  len : m.length ≤ 4096
  keys : (m.map (·.1)).Nodup
  nums : (m.map (·.2)).Nodup

theorem insM_perm (k : List UInt8) (n : Nat) : ∀ m : DM, (insM k n m).Perm ((k, n) :: m)
  | [] => List.Perm.refl _
  | y :: r => by
    rw [insM]
    split
    · exact List.Perm.refl _
    · exact ((insM_perm k n r).cons y).trans (List.Perm.swap _ _ _)
theorem putM_perm (m : DM) (k : List UInt8) (n : Nat) : (putM m k n).Perm ((k, n) :: delM m k) := insM_perm k n _
theorem delM_sub (m : DM) (k : List UInt8) : (delM m k).Sublist m := List.filter_sublist
theorem delM_perm {m m' : DM} (h : m.Perm m') (k : List UInt8) : (delM m k).Perm (delM m' k) := h.filter _
theorem delM_not (m : DM) (k : List UInt8) : k ∉ (delM m k).map (·.1) := by
  intro h
  obtain ⟨p, hp, rfl⟩ := List.mem_map.1 h
  have := (List.mem_filter.1 hp).2
  simp at this
theorem DirOk.sub {m m' : DM} (h : DirOk m) (hs : m'.Sublist m) : DirOk m' :=
  ⟨Nat.le_trans hs.length_le h.len, h.keys.sublist (hs.map _), h.nums.sublist (hs.map _)⟩
theorem DirOk.perm {m m' : DM} (h : DirOk m) (hp : m.Perm m') : DirOk m' :=
  ⟨by rw [← hp.length_eq]; exact h.len, (hp.map _).nodup_iff.1 h.keys, (hp.map _).nodup_iff.1 h.nums⟩
theorem DirOk.nil : DirOk [] := ⟨by simp, List.nodup_nil, List.nodup_nil⟩

theorem getM_none_iff {m : DM} {k : List UInt8} : getM m k = none ↔ k ∉ m.map (·.1) := by
  rw [getM, Option.map_eq_none_iff, List.find?_eq_none]
  constructor
  · intro h hk
    obtain ⟨p, hp, rfl⟩ := List.mem_map.1 hk
    exact h p hp (by simp)
  · intro h p hp he
    exact h (List.mem_map.2 ⟨p, hp, by simpa using he⟩)
theorem DirOk.pair {m : DM} (h : DirOk m) : m.Pairwise fun p q => p.1 ≠ q.1 := List.pairwise_map.1 h.keys
theorem DirOk.get {m : DM} (h : DirOk m) {p : List UInt8 × Nat} (hp : p ∈ m) : getM m p.1 = some p.2 := getM_of_mem h.pair hp
theorem DirOk.get_iff {m : DM} (h : DirOk m) {k : List UInt8} {n : Nat} : getM m k = some n ↔ (k, n) ∈ m := ⟨getM_mem, fun hp => h.get hp⟩

theorem delM_none {m : DM} {k : List UInt8} (h : getM m k = none) : delM m k = m := by
  rw [delM, List.filter_eq_self]
  intro p hp
  have := getM_none_iff.1 h
  simp only [Bool.not_eq_true', beq_eq_false_iff_ne, ne_eq]
  intro e
  exact this (List.mem_map.2 ⟨p, hp, e⟩)

theorem DirOk.cons {m : DM} {k : List UInt8} {n : Nat} (h : DirOk m) (hk : k ∉ m.map (·.1)) (hn : n ∉ m.map (·.2)) (hl : m.length < 4096) : DirOk ((k, n) :: m) :=
  ⟨by rw [List.length_cons]; omega, by rw [List.map_cons, List.nodup_cons]; exact ⟨hk, h.keys⟩, by rw [List.map_cons, List.nodup_cons]; exact ⟨hn, h.nums⟩⟩

theorem DirOk.put {m : DM} {k : List UInt8} {n : Nat} (h : DirOk m) (hk : getM m k = none) (hn : n ∉ m.map (·.2)) (hl : m.length < 4096) : DirOk (putM m k n) := by
  refine DirOk.perm ?_ (putM_perm m k n).symm
  rw [delM_none hk]
  exact h.cons (getM_none_iff.1 hk) hn hl
theorem delM_length_lt {m : DM} {k : List UInt8} {n : Nat} (h : (k, n) ∈ m) : (delM m k).length < m.length := by
  rw [delM]
  refine List.length_filter_lt_length_iff_exists.2 ⟨(k, n), h, ?_⟩
  simp
theorem ren_perm {m : DM} {a b : List UInt8} {n : Nat} (hab : a ≠ b) : (delM (putM m b n) a).Perm ((b, n) :: delM (delM m b) a) := by
  refine (delM_perm (putM_perm m b n) a).trans ?_
  have e : delM ((b, n) :: delM m b) a = (b, n) :: delM (delM m b) a := by
    show List.filter (fun p => !(p.1 == a)) ((b, n) :: delM m b) = _
    rw [List.filter_cons_of_pos (by simpa using fun e => hab e.symm)]; rfl
  rw [e]
theorem inj_of_nodup : ∀ {m : DM}, (m.map (·.2)).Nodup → ∀ {p q : List UInt8 × Nat}, p ∈ m → q ∈ m → p.2 = q.2 → p = q
  | [], _, _, _, hp, _, _ => by simp at hp
  | y :: r, hn, p, q, hp, hq, he => by
    rw [List.map_cons, List.nodup_cons] at hn
    rcases List.mem_cons.1 hp with e1 | h1
    · rcases List.mem_cons.1 hq with e2 | h2
      · rw [e1, e2]
      · exact absurd (List.mem_map.2 ⟨q, h2, by rw [← he, e1]⟩) hn.1
    · rcases List.mem_cons.1 hq with e2 | h2
      · exact absurd (List.mem_map.2 ⟨p, h1, by rw [he, e2]⟩) hn.1
      · exact inj_of_nodup hn.2 h1 h2 he
theorem DirOk.ren {m : DM} {a b : List UInt8} {n : Nat} (h : DirOk m) (ha : getM m a = some n) (hab : a ≠ b) : DirOk (delM (putM m b n) a) := by
  refine DirOk.perm ?_ (ren_perm hab).symm
  have hm := h.get_iff.1 ha
  have hs : (delM (delM m b) a).Sublist (delM m a) := (delM_sub m b).filter _
  have h1 := (h.sub (delM_sub m a)).sub hs
  refine h1.cons ?_ ?_ ?_
  · intro hb
    have : b ∈ (delM m b).map (·.1) := ((delM_sub (delM m b) a).map _).subset hb
    exact delM_not m b this
  · intro hn
    obtain ⟨p, hp, he⟩ := List.mem_map.1 hn
    have hp' := hs.subset hp
    have hpm := delM_mem hp'
    have : p.1 = a := by
      have := inj_of_nodup h.nums hpm hm he
      rw [this]
    exact delM_not m a (List.mem_map.2 ⟨p, hp', this⟩)
  · have := hs.length_le
    have := delM_length_lt hm
    have := h.len
    omega

structure Good (k : Nat) (D : Dk) : Prop where
  ok : Ok D
  names : ∀ c ∈ D.chs, c.names
  bcalls : D.calls + k ≤ 1000000
  bfiles : D.files.length + k ≤ 1000000
  bchs : D.chs.length + k ≤ 1000000
  hist : ∀ j, DirOk (replay D j)
  whole : replay D D.chs.length = D.now

theorem Good.dir {k : Nat} {D : Dk} (h : Good k D) : DirOk D.now := by rw [← h.whole]; exact h.hist _
theorem Good.le {k k' : Nat} {D : Dk} (h : Good k D) (hk : k' ≤ k) : Good k' D :=
  ⟨h.ok, h.names, Nat.le_trans (Nat.add_le_add_left hk _) h.bcalls, Nat.le_trans (Nat.add_le_add_left hk _) h.bfiles, Nat.le_trans (Nat.add_le_add_left hk _) h.bchs, h.hist, h.whole⟩

theorem good_new (q : Int) (h0 : 0 ≤ q) (h1 : q ≤ 1099511627776) : Good 1000000 (newDk q) :=
  ⟨⟨fun p hp => by simp [newDk] at hp, fun p hp => by simp [newDk] at hp, fun c hc => by simp [newDk] at hc, by simp [newDk], by simp [newDk], by simp [newDk], by simp [newDk], by simp [newDk], fun f hf => by simp [newDk] at hf, ⟨h0, h1⟩, rfl⟩,
    fun c hc => by simp [newDk] at hc, by simp [newDk], by simp [newDk], by simp [newDk], fun j => by simp [replay, newDk]; exact DirOk.nil, rfl⟩

/-- A disk whose files, directories and changes are another's. -/
theorem Good.like {k : Nat} {D D' : Dk} (h : Good k D) (hf : D'.files = D.files) (hn : D'.now = D.now) (hs : D'.safe = D.safe) (hc : D'.chs = D.chs) (hq : D'.quota = D.quota) (hu : D'.used = D.used) (k' : Nat) (hk : k' ≤ k) (hcl : D'.calls + k' ≤ 1000000) (hl : D'.left ≤ 1073741824) : Good k' D' := by
  have hr : ∀ j, replay D' j = replay D j := fun j => by rw [replay, replay, hc, hs]
  refine ⟨⟨by rw [hn, hf]; exact h.ok.now, by rw [hs, hf]; exact h.ok.safe, by rw [hc, hf]; exact h.ok.chs, by omega, hl, by rw [hf]; exact h.ok.nfiles, by rw [hc]; exact h.ok.nchs, by rw [hn]; exact h.ok.nnow, by rw [hf]; exact h.ok.lens, by rw [hq]; exact h.ok.quota, by rw [hu, hf, hn]; exact h.ok.used⟩,
    by rw [hc]; exact h.names, hcl, by rw [hf]; have := h.bfiles; omega, by rw [hc]; have := h.bchs; omega, fun j => by rw [hr]; exact h.hist j, by rw [hr, hc, hn]; exact h.whole⟩
theorem good_count {k : Nat} {D : Dk} (h : Good (k + 1) D) : Good k (count D).2 := by
  obtain ⟨q1, q2, q3, q4, q5, q6⟩ := count_now D
  obtain ⟨q7, q8⟩ := count_more D
  exact h.like q2 q1 q5 q6 q3 q4 k (by omega) (by have := h.bcalls; omega) (Nat.le_trans q8 h.ok.left)
theorem good_openF {k : Nat} {D : Dk} {x : List UInt8} (h : Good (k + 1) D) : Good k (openF D x).2 := by rw [openF_count]; exact good_count h

theorem replay_snoc (D : Dk) (c : Ch) (j : Nat) : replay (turn D c) j = if j ≤ D.chs.length then replay D j else c.on (replay D D.chs.length) := by
  have e : (turn D c).chs = D.chs ++ [c] := rfl
  have e2 : (turn D c).safe = D.safe := rfl
  rw [replay, e, e2]
  split
  · next h => rw [List.take_append_of_le_length h]; rfl
  · next h => rw [List.take_of_length_le (by simp; omega), List.foldl_append, replay, List.take_length]; rfl
theorem good_turn {k : Nat} {D : Dk} {c : Ch} (h : Good (k + 1) D) (hc : Fine D c) (hd : DirOk (c.on D.now)) : Good k (turn D c) := by
  have hb := h.bchs
  refine ⟨⟨on_fits h.ok.now hc.fit, h.ok.safe, ?_, h.ok.calls, h.ok.left, h.ok.nfiles, ?_, hd.len, h.ok.lens, h.ok.quota, rfl⟩, ?_, by have := h.bcalls; show D.calls + k ≤ _; omega, by have := h.bfiles; show D.files.length + k ≤ _; omega, ?_, ?_, ?_⟩
  · intro d hm
    rcases List.mem_append.1 hm with k | k
    · exact h.ok.chs d k
    · simp at k; subst k; exact hc.fit
  · show (D.chs ++ [c]).length ≤ _; simp; omega
  · intro d hm
    rcases List.mem_append.1 hm with k | k
    · exact h.names d k
    · simp at k; subst k; exact hc.names
  · show (D.chs ++ [c]).length + k ≤ _; simp; omega
  · intro j
    rw [replay_snoc]
    split
    · exact h.hist j
    · rw [h.whole]; exact hd
  · rw [replay_snoc, if_neg (by show ¬ (D.chs ++ [c]).length ≤ _; simp), h.whole]; rfl
theorem good_moreF {k : Nat} {D : Dk} (h : Good (k + 1) D) : Good k (moreF D) := by
  have hb := h.bfiles
  refine ⟨ok_moreF h.ok (by omega), h.names, by have := h.bcalls; show D.calls + k ≤ _; omega, ?_, by have := h.bchs; show D.chs.length + k ≤ _; omega, h.hist, h.whole⟩
  show (D.files ++ [_]).length + k ≤ _; simp; omega

theorem good_create {k : Nat} {D : Dk} {x : List UInt8} (h : Good (k + 2) D) (hx : x.length ≤ maxLen) : Good k (create D x).2 := by
  have hc := good_count (k := k + 1) h
  have e0 : create D x = (let (e, D) := count D; if e ≠ 0 then (e, D) else if !label x then (10, D) else if (getM D.now x).isSome then (7, D) else if 4096 ≤ D.now.length then (3, D) else (0, turn (moreF D) (.put x D.files.length))) := rfl
  rw [e0]
  obtain ⟨⟨r, D'⟩, hcd⟩ : ∃ y, y = count D := ⟨_, rfl⟩
  rw [← hcd] at hc ⊢
  dsimp only at hc ⊢
  split
  · exact hc.le (by omega)
  split
  · exact hc.le (by omega)
  split
  · exact hc.le (by omega)
  split
  · exact hc.le (by omega)
  · next h1 h2 h3 h4 =>
    have hg : getM D'.now x = none := by
      cases hq : getM D'.now x with
      | none => rfl
      | some n => rw [hq] at h3; simp at h3
    -- one more file, then the turn: the numbers stay below a million
    have hm : Good k (moreF D') := good_moreF hc
    have hput : DirOk (putM D'.now x D'.files.length) := by
      refine hc.dir.put hg ?_ (by omega)
      intro hn
      obtain ⟨p, hp, he⟩ := List.mem_map.1 hn
      have := hc.ok.now p hp
      omega
    have hb := hc.bchs
    have hbf := hc.bfiles
    have hbc := hc.bcalls
    have hm1 : Good k (turn (moreF D') (.put x D'.files.length)) := by
      have hfl : (moreF D').files.length = D'.files.length + 1 := by simp [moreF]
      have hok := ok_moreF hc.ok (by omega)
      have hfit : (Ch.put x D'.files.length).fits (moreF D').files.length := by rw [hfl]; exact Nat.lt_succ_self _
      refine ⟨⟨on_fits hok.now hfit, hok.safe, ?_, hok.calls, hok.left, hok.nfiles, ?_, hput.len, hok.lens, hok.quota, rfl⟩, ?_, by show D'.calls + k ≤ _; omega, by show (moreF D').files.length + k ≤ _; omega, ?_, ?_, ?_⟩
      · intro d hd
        rcases List.mem_append.1 hd with q | q
        · exact hok.chs d q
        · simp at q; subst q; exact hfit
      · show (D'.chs ++ [_]).length ≤ _; simp; omega
      · intro d hd
        rcases List.mem_append.1 hd with q | q
        · exact hc.names d q
        · simp at q; subst q; exact hx
      · show (D'.chs ++ [_]).length + k ≤ _; simp; omega
      · intro j
        rw [replay_snoc]
        split
        · exact hc.hist j
        · show DirOk (Ch.on (replay D' D'.chs.length) _); rw [hc.whole]; exact hput
      · rw [replay_snoc, if_neg (by show ¬ (D'.chs ++ [_]).length ≤ D'.chs.length; simp)]
        show Ch.on (replay D' D'.chs.length) _ = _; rw [hc.whole]; rfl
    exact hm1

theorem good_remove {k : Nat} {D : Dk} {x : List UInt8} (h : Good (k + 2) D) (hx : x.length ≤ maxLen) : Good k (remove D x).2 := by
  have hc := good_openF (k := k + 1) (x := x) h
  obtain ⟨⟨⟨o, e⟩, D'⟩, hcd⟩ : ∃ y, y = openF D x := ⟨_, rfl⟩
  unfold remove
  rw [← hcd]
  cases o with
  | none => rw [← hcd] at hc; exact hc.le (by omega)
  | some n => rw [← hcd] at hc; exact good_turn hc ⟨trivial, hx⟩ (hc.dir.sub (delM_sub _ _))

theorem openF_get {D D' : Dk} {x : List UInt8} {n : Nat} {e : Int} (h : openF D x = ((some n, e), D')) : getM D'.now x = some n := by
  unfold openF at h
  obtain ⟨⟨r, D1⟩, hcd⟩ : ∃ y, y = count D := ⟨_, rfl⟩
  rw [← hcd] at h
  dsimp only at h
  split at h
  · simp at h
  · split at h
    · simp at h
    · next q hq =>
      injection h with h1 h2
      injection h1 with h1 _
      injection h1 with h1
      rw [← h2, ← h1]; exact hq

theorem good_rename {k : Nat} {D : Dk} {x y : List UInt8} (h : Good (k + 2) D) (hx : x.length ≤ maxLen) (hy : y.length ≤ maxLen) : Good k (rename D x y).2 := by
  have hc := good_openF (k := k + 1) (x := x) h
  obtain ⟨⟨⟨o, e⟩, D'⟩, hcd⟩ : ∃ z, z = openF D x := ⟨_, rfl⟩
  unfold rename
  rw [← hcd]
  cases o with
  | none => rw [← hcd] at hc; exact hc.le (by omega)
  | some n =>
    have hg := openF_get hcd.symm
    rw [← hcd] at hc
    dsimp only at hc ⊢
    split
    · exact hc.le (by omega)
    · split
      · exact hc.le (by omega)
      · next _ hne =>
        refine good_turn hc ⟨?_, hx, hy⟩ ?_
        · exact Nat.lt_of_le_of_lt (Nat.zero_le _) (fits_get hc.ok.now hg)
        · show DirOk (delM (putM D'.now y ((getM D'.now x).getD 0)) x)
          rw [hg]
          exact hc.dir.ren hg hne

/-- One file has turned. -/
theorem sum_one (g g' : Nat → Int) (n : Nat) (d : Int) (hn : g' n = g n + d) (ho : ∀ i, i ≠ n → g' i = g i) : ∀ ns : List Nat, ns.Nodup → n ∈ ns → (ns.map g').sum = (ns.map g).sum + d
  | [], _, h => by simp at h
  | x :: r, hnd, h => by
    rw [List.nodup_cons] at hnd
    rw [List.map_cons, List.map_cons, List.sum_cons, List.sum_cons]
    by_cases hx : x = n
    · subst hx
      have : r.map g' = r.map g := List.map_congr_left (fun i hi => ho i (fun e => hnd.1 (e ▸ hi)))
      rw [this, hn]; omega
    · have hr : n ∈ r := (List.mem_cons.1 h).resolve_left (fun e => hx e.symm)
      rw [sum_one g g' n d hn ho r hnd.2 hr, ho x hx]; omega
theorem fileLen_set (fs : List Fl) (n : Nat) (f : Fl) (i : Nat) (hn : n < fs.length) : fileLen (fs.set n f) i = if i = n then f.data.length else fileLen fs i := by
  unfold fileLen
  by_cases h : i = n
  · subst h; rw [if_pos rfl, List.getElem?_set_self hn]; rfl
  · rw [if_neg h, List.getElem?_set_ne (fun e => h e.symm)]
theorem usedOf_map (fs : List Fl) (m : DM) : usedOf fs m = ((m.map (·.2)).map fun n => (fileLen fs n : Int)).sum := by rw [usedOf, List.map_map]; rfl
theorem usedOf_same {fs : List Fl} {n : Nat} {f : Fl} {m : DM} (hn : n < fs.length) (hl : f.data.length = fileLen fs n) : usedOf (fs.set n f) m = usedOf fs m := by
  rw [usedOf_map, usedOf_map]
  congr 1
  refine List.map_congr_left fun i _ => ?_
  rw [fileLen_set _ _ _ _ hn]
  split
  · next h => subst h; rw [hl]
  · rfl
theorem usedOf_plus {fs : List Fl} {n d : Nat} {f : Fl} {m : DM} (hn : n < fs.length) (hl : f.data.length = fileLen fs n + d) (hm : (m.map (·.2)).Nodup) (hi : n ∈ m.map (·.2)) : usedOf (fs.set n f) m = usedOf fs m + d := by
  rw [usedOf_map, usedOf_map]
  refine sum_one _ _ n d ?_ ?_ _ hm hi
  · rw [fileLen_set _ _ _ _ hn, if_pos rfl, hl]; omega
  · intro i hi'
    rw [fileLen_set _ _ _ _ hn, if_neg hi']

/-- A file put in a file's place. -/
theorem good_put {k : Nat} {D : Dk} {n : Nat} {f : Fl} {u : Int} (h : Good k D) (hn : n < D.files.length) (hf : f.data.length ≤ 134217728 ∧ f.safe ≤ f.data.length) (hu : u = usedOf (D.files.set n f) D.now) : Good k { putFile D n f with used := u } := by
  have hl : (D.files.set n f).length = D.files.length := List.length_set
  refine ⟨⟨?_, ?_, ?_, h.ok.calls, h.ok.left, ?_, h.ok.nchs, h.ok.nnow, ?_, h.ok.quota, hu⟩, h.names, h.bcalls, ?_, h.bchs, h.hist, h.whole⟩
  · show fits (D.files.set n f).length D.now; rw [hl]; exact h.ok.now
  · show fits (D.files.set n f).length D.safe; rw [hl]; exact h.ok.safe
  · intro c hc; show c.fits (D.files.set n f).length; rw [hl]; exact h.ok.chs c hc
  · show (D.files.set n f).length ≤ _; rw [hl]; exact h.ok.nfiles
  · intro g hg
    rcases List.mem_or_eq_of_mem_set hg with q | q
    · exact h.ok.lens g q
    · rw [q]; exact hf
  · show (D.files.set n f).length + k ≤ _; rw [hl]; exact h.bfiles

theorem fileLen_of {fs : List Fl} {n : Nat} {f : Fl} (h : fs[n]? = some f) : fileLen fs n = f.data.length := by unfold fileLen; rw [h]; rfl

theorem good_append {k : Nat} {D : Dk} {x d : List UInt8} (h : Good (k + 1) D) : Good k (append D x d).2 := by
  have hc := good_openF (k := k) (x := x) h
  obtain ⟨⟨⟨o, e⟩, D'⟩, hcd⟩ : ∃ z, z = openF D x := ⟨_, rfl⟩
  unfold append
  rw [← hcd]
  cases o with
  | none => rw [← hcd] at hc; exact hc
  | some n =>
    have hg := openF_get hcd.symm
    rw [← hcd] at hc
    dsimp only at hc ⊢
    have hn := fits_get hc.ok.now hg
    obtain ⟨f, hf⟩ : ∃ f, D'.files[n]? = some f := ⟨_, List.getElem?_eq_getElem hn⟩
    have hgd : D'.files.getD n ⟨[], 0⟩ = f := by rw [List.getD, hf]; rfl
    rw [hgd]
    split
    · exact hc
    · split
      · exact hc
      · next h1 h2 =>
        have hl := hc.ok.lens f (List.mem_of_getElem? hf)
        refine good_put hc hn ⟨by show (f.data ++ d).length ≤ _; rw [List.length_append]; omega, by show f.safe ≤ (f.data ++ d).length; rw [List.length_append]; omega⟩ ?_
        rw [usedOf_plus (d := d.length) hn (by show (f.data ++ d).length = _; rw [List.length_append, fileLen_of hf]) hc.dir.nums (List.mem_map.2 ⟨_, getM_mem hg, rfl⟩), ← hc.ok.used]
theorem putFile_used (D : Dk) (n : Nat) (f : Fl) : putFile D n f = { putFile D n f with used := D.used } := rfl
theorem good_sync {k : Nat} {D : Dk} {x : List UInt8} (h : Good (k + 1) D) : Good k (sync D x).2 := by
  have hc := good_openF (k := k) (x := x) h
  obtain ⟨⟨⟨o, e⟩, D'⟩, hcd⟩ : ∃ z, z = openF D x := ⟨_, rfl⟩
  unfold sync
  rw [← hcd]
  cases o with
  | none => rw [← hcd] at hc; exact hc
  | some n =>
    have hg := openF_get hcd.symm
    rw [← hcd] at hc
    dsimp only at hc ⊢
    have hn := fits_get hc.ok.now hg
    obtain ⟨f, hf⟩ : ∃ f, D'.files[n]? = some f := ⟨_, List.getElem?_eq_getElem hn⟩
    have hgd : D'.files.getD n ⟨[], 0⟩ = f := by rw [List.getD, hf]; rfl
    rw [hgd, putFile_used]
    exact good_put hc hn ⟨(hc.ok.lens f (List.mem_of_getElem? hf)).1, Nat.le_refl _⟩ (by rw [usedOf_same hn (by rw [fileLen_of hf]), hc.ok.used])
theorem good_corrupt {k : Nat} {D : Dk} {x d : List UInt8} {a : Int} (h : Good k D) : Good k (corrupt D x a d).2 := by
  unfold corrupt
  split
  · exact h
  · cases hg : getM D.now x with
    | none => exact h
    | some n =>
      have hn := fits_get h.ok.now hg
      obtain ⟨f, hf⟩ : ∃ f, D.files[n]? = some f := ⟨_, List.getElem?_eq_getElem hn⟩
      have hgd : D.files.getD n ⟨[], 0⟩ = f := by rw [List.getD, hf]; rfl
      dsimp only
      rw [hgd]
      split
      · exact h
      · next hq =>
        have hlen : (f.data.take a.toNat ++ d ++ f.data.drop (a.toNat + d.length)).length = f.data.length := by
          rw [List.length_append, List.length_append, List.length_take, List.length_drop]; omega
        have hl := h.ok.lens f (List.mem_of_getElem? hf)
        rw [putFile_used]
        exact good_put h hn ⟨by show (f.data.take a.toNat ++ d ++ f.data.drop (a.toNat + d.length)).length ≤ _; omega, by show f.safe ≤ (f.data.take a.toNat ++ d ++ f.data.drop (a.toNat + d.length)).length; omega⟩ (by rw [usedOf_same hn (by rw [fileLen_of hf]; exact hlen), h.ok.used])
theorem good_syncDir {k : Nat} {D : Dk} (h : Good (k + 1) D) : Good k (syncDir D).2 := by
  have hc := good_count (k := k) h
  unfold syncDir
  obtain ⟨⟨r, D'⟩, hcd⟩ : ∃ y, y = count D := ⟨_, rfl⟩
  rw [← hcd] at hc ⊢
  dsimp only at hc ⊢
  split
  · exact hc
  · have hr : ∀ j, replay { D' with safe := D'.now, chs := [] } j = D'.now := fun j => by simp [replay]
    refine ⟨⟨hc.ok.now, hc.ok.now, fun c hq => by simp at hq, hc.ok.calls, hc.ok.left, hc.ok.nfiles, by simp, hc.ok.nnow, hc.ok.lens, hc.ok.quota, hc.ok.used⟩, fun c hq => by simp at hq, hc.bcalls, hc.bfiles, by have := hc.bfiles; simp; omega, fun j => by rw [hr]; exact hc.dir, hr _⟩
theorem good_pull {k : Nat} {D : Dk} {c : Int × List Int} (h : Good k D) : Good k (pull D c).2 := by
  unfold pull
  split
  · exact h
  · exact Good.like (D' := { D with down := true, crash := c }) h rfl rfl rfl rfl rfl rfl k (Nat.le_refl _) h.bcalls h.ok.left
theorem cutTo_ok {f : Fl} {kv : Int} (h : f.data.length ≤ 134217728 ∧ f.safe ≤ f.data.length) : (cutTo f kv).data.length ≤ 134217728 ∧ (cutTo f kv).safe ≤ (cutTo f kv).data.length := by
  obtain ⟨n, h1, _, _, h2⟩ := cutTo_le f kv h.2
  rw [h2]
  exact ⟨by show (f.data.take n).length ≤ _; rw [List.length_take]; omega, by show n ≤ (f.data.take n).length; rw [List.length_take]; omega⟩
theorem cutAll_ok (keep : List Int) : ∀ (ns : List Nat) (i : Nat) (fs : List Fl), (∀ f ∈ fs, f.data.length ≤ 134217728 ∧ f.safe ≤ f.data.length) → ∀ f ∈ cutAll keep i ns fs, f.data.length ≤ 134217728 ∧ f.safe ≤ f.data.length
  | [], _, _, h => h
  | n :: r, i, fs, h => by
    rw [cutAll]
    refine cutAll_ok keep r (i + 1) _ fun f hf => ?_
    rcases List.mem_or_eq_of_mem_set hf with q | q
    · exact h f q
    · rw [q]
      refine cutTo_ok ?_
      by_cases hn : n < fs.length
      · have hg : fs.getD n ⟨[], 0⟩ = fs[n] := by rw [List.getD, List.getElem?_eq_getElem hn]; rfl
        rw [hg]; exact h _ (List.getElem_mem hn)
      · have hg : fs.getD n ⟨[], 0⟩ = ⟨[], 0⟩ := by rw [List.getD, List.getElem?_eq_none (by omega)]; rfl
        rw [hg]; simp
theorem good_restart {k : Nat} {D : Dk} (h : Good k D) : Good k (restartN D).2 := by
  unfold restartN
  split
  · exact h
  · obtain ⟨m, hm⟩ : ∃ m, m = (D.crash.1 % ((D.chs.length : Int) + 1)).toNat := ⟨_, rfl⟩
    rw [← hm]
    have hr : ∀ j, replay (restarted D m) j = replay D m := fun j => by simp [replay, restarted]
    have hl : (restarted D m).files.length = D.files.length := cutAll_length _ _ _ _
    have hfit : fits (restarted D m).files.length (replay D m) := by rw [hl]; exact replay_fits h.ok m
    exact ⟨⟨hfit, hfit, fun c hc => by simp [restarted] at hc, h.ok.calls, by simp [restarted], by rw [hl]; exact h.ok.nfiles, by simp [restarted], (h.hist m).len, cutAll_ok _ _ _ _ h.ok.lens, h.ok.quota, rfl⟩, fun c hc => by simp [restarted] at hc, h.bcalls, by rw [hl]; exact h.bfiles, by have := h.bfiles; simp [restarted]; omega, fun j => by rw [hr]; exact h.hist m, hr _⟩
end Go.Proofs.Ytcfdfpjemonhoaa.Dk
