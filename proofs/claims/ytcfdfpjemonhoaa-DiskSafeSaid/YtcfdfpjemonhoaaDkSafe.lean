/-
  DiskSafe's plain part: what was made safe survives. No program stands in this text.
-/
import Derived.Test.YtcfdfpjemonhoaaDkLive
namespace Go.Proofs.Ytcfdfpjemonhoaa.Dk
open Go.RowKit Go.Maps Go.WideMaps

/-- A file that goes on from another: what was safe is there, and more is safe. -/
structure Cut (f f' : Fl) : Prop where
  pre : ∃ m, f'.data = f.data.take m
  keeps : f.safe ≤ f'.data.length
  more : f.safe ≤ f'.safe
  ok : f'.safe ≤ f'.data.length
theorem Cut.refl {f : Fl} (h : f.safe ≤ f.data.length) : Cut f f := ⟨⟨f.data.length, by rw [List.take_length]⟩, h, Nat.le_refl _, h⟩
theorem Cut.trans {f g h : Fl} (a : Cut f g) (b : Cut g h) : Cut f h := by
  obtain ⟨m, hm⟩ := a.pre
  obtain ⟨n, hn⟩ := b.pre
  refine ⟨⟨min n m, by rw [hn, hm, List.take_take]⟩, ?_, Nat.le_trans a.more b.more, b.ok⟩
  have := b.keeps
  have := a.more
  omega
theorem cut_cutTo {f : Fl} {kv : Int} (h : f.safe ≤ f.data.length) : Cut f (cutTo f kv) := by
  obtain ⟨n, h1, h2, _, h4⟩ := cutTo_le f kv h
  rw [h4]
  refine ⟨⟨n, rfl⟩, ?_, h2, ?_⟩
  · show f.safe ≤ (f.data.take n).length; rw [List.length_take]; omega
  · show n ≤ (f.data.take n).length; rw [List.length_take]; omega
/-- Each file of one list goes on from the other's. -/
def Cuts (fs gs : List Fl) : Prop := gs.length = fs.length ∧ ∀ (n : Nat) f g, fs[n]? = some f → gs[n]? = some g → Cut f g
theorem cutAll_cuts (keep : List Int) : ∀ (ns : List Nat) (i : Nat) (fs : List Fl), (∀ f ∈ fs, f.safe ≤ f.data.length) → Cuts fs (cutAll keep i ns fs)
  | [], _, fs, h => ⟨rfl, fun n f g hf hg => by
      obtain rfl := Option.some.inj (hf.symm.trans hg)
      exact Cut.refl (h f (List.mem_of_getElem? hf))⟩
  | x :: r, i, fs, h => by
    rw [cutAll]
    have hx : ∀ f ∈ fs.set x (cutTo (fs.getD x ⟨[], 0⟩) (keepAt keep i)), f.safe ≤ f.data.length := by
      intro f hf
      rcases List.mem_or_eq_of_mem_set hf with q | q
      · exact h f q
      · rw [q]
        by_cases hn : x < fs.length
        · have hg : fs.getD x ⟨[], 0⟩ = fs[x] := by rw [List.getD, List.getElem?_eq_getElem hn]; rfl
          rw [hg]; exact (cut_cutTo (h _ (List.getElem_mem hn))).ok
        · have hg : fs.getD x ⟨[], 0⟩ = ⟨[], 0⟩ := by rw [List.getD, List.getElem?_eq_none (by omega)]; rfl
          rw [hg]; exact (cut_cutTo (f := ⟨[], 0⟩) (Nat.le_refl _)).ok
    obtain ⟨h1, h2⟩ := cutAll_cuts keep r (i + 1) _ hx
    refine ⟨by rw [h1, List.length_set], fun n f g hf hg => ?_⟩
    have hn : n < fs.length := (List.getElem?_eq_some_iff.1 hf).1
    by_cases hnx : n = x
    · subst hnx
      have e1 : (fs.set n (cutTo (fs.getD n ⟨[], 0⟩) (keepAt keep i)))[n]? = some (cutTo f (keepAt keep i)) := by
        rw [List.getElem?_set_self hn]
        have : fs.getD n ⟨[], 0⟩ = f := by rw [List.getD, hf]; rfl
        rw [this]
      exact (cut_cutTo (h f (List.mem_of_getElem? hf))).trans (h2 n _ g e1 hg)
    · have e1 : (fs.set x (cutTo (fs.getD x ⟨[], 0⟩) (keepAt keep i)))[n]? = some f := by
        rw [List.getElem?_set_ne (fun e => hnx e.symm)]; exact hf
      exact h2 n f g e1 hg

/-- Every named file is safe whole. -/
def AllSafe (D : Dk) : Prop := ∀ p ∈ D.now, ∀ f, D.files[p.2]? = some f → f.safe = f.data.length
theorem cutAll_same (keep : List Int) : ∀ (ns : List Nat) (i : Nat) (fs : List Fl), (∀ n ∈ ns, ∃ f, fs[n]? = some f ∧ f.safe = f.data.length) → cutAll keep i ns fs = fs
  | [], _, _, _ => rfl
  | n :: r, i, fs, h => by
    obtain ⟨f, hf, hs⟩ := h n (by simp)
    have hg : fs.getD n ⟨[], 0⟩ = f := by rw [List.getD, hf]; rfl
    have hc : cutTo f (keepAt keep i) = f := by
      have e : ((f.data.length : Int) - f.safe + 1) = 1 := by omega
      unfold cutTo
      rw [e, Int.emod_one]
      show (⟨f.data.take (f.safe + 0), f.safe + 0⟩ : Fl) = f
      rw [Nat.add_zero, hs, List.take_length]
      cases f
      simp only at hs
      rw [← hs]
    have hset : fs.set n f = fs := by
      obtain ⟨hi, he⟩ := List.getElem?_eq_some_iff.1 hf
      rw [← he]; exact List.set_getElem_self hi
    rw [cutAll, hg, hc, hset]
    exact cutAll_same keep r (i + 1) fs (fun m hm => h m (by simp [hm]))

/-- A crash where all is safe changes nothing. -/
theorem restart_safe {k : Nat} {D : Dk} (hg : Good k D) (hu : D.down = false) (hc : D.chs = []) (hs : D.safe = D.now) (ha : AllSafe D) (c : Int × List Int) :
    ∃ D', restartN { D with down := true, crash := c } = (0, D') ∧ D'.files = D.files ∧ D'.now = D.now ∧ D'.safe = D.now ∧ D'.chs = [] ∧ Up D' ∧ D'.quota = D.quota := by
  have hr : ∀ m, replay { D with down := true, crash := c } m = D.now := fun m => by simp [replay, hc, hs]
  have hf : ∀ m, cutAll c.2 0 (numsOf (replay { D with down := true, crash := c } m)) D.files = D.files := fun m => by
    rw [hr]
    refine cutAll_same _ _ _ _ fun n hn => ?_
    have hlt := numsOf_fits hg.ok.now hn
    have hn' := (List.mergeSort_perm (D.now.map (·.2)) (fun x y => decide (x ≤ y))).mem_iff.1 hn
    obtain ⟨p, hp, rfl⟩ := List.mem_map.1 hn'
    have hfg : D.files[p.2]? = some D.files[p.2] := List.getElem?_eq_getElem hlt
    exact ⟨_, hfg, ha p hp _ hfg⟩
  refine ⟨_, rfl, hf _, hr _, hr _, rfl, ⟨rfl, rfl⟩, rfl⟩

/-- What a list of safe files keeps, through calls that make, append and make safe. -/
structure From (E D : Dk) : Prop where
  inAll : ∀ p ∈ E.now, ∀ j, p ∈ replay D j
  sub : ∀ j, ∀ p ∈ replay D j, p ∈ D.now
  files : ∀ p ∈ E.now, ∀ f g, E.files[p.2]? = some f → D.files[p.2]? = some g → g.data.take f.data.length = f.data ∧ f.data.length ≤ g.safe

theorem From.start {E : Dk} {k : Nat} (hg : Good k E) (hc : E.chs = []) (hs : E.safe = E.now) (ha : AllSafe E) : From E E := by
  have hr : ∀ j, replay E j = E.now := fun j => by simp [replay, hc, hs]
  refine ⟨fun p hp j => by rw [hr]; exact hp, fun j p hp => by rw [hr] at hp; exact hp, fun p hp f g h1 h2 => ?_⟩
  obtain rfl := Option.some.inj (h1.symm.trans h2)
  exact ⟨List.take_length, Nat.le_of_eq (ha p hp f h1).symm⟩
theorem From.like {E D D' : Dk} (h : From E D) (hf : D'.files = D.files) (hn : D'.now = D.now) (hs : D'.safe = D.safe) (hc : D'.chs = D.chs) : From E D' := by
  have hr : ∀ j, replay D' j = replay D j := fun j => by rw [replay, replay, hc, hs]
  exact ⟨fun p hp j => by rw [hr]; exact h.inAll p hp j, fun j p hp => by rw [hr] at hp; rw [hn]; exact h.sub j p hp, by rw [hf]; exact h.files⟩
theorem From.count {E D : Dk} (h : From E D) : From E (Dk.count D).2 := by
  obtain ⟨q1, q2, _, _, q5, q6⟩ := count_now D
  exact h.like q2 q1 q5 q6
theorem From.openF {E D : Dk} (h : From E D) (x : List UInt8) : From E (Dk.openF D x).2 := by rw [openF_count]; exact h.count
theorem From.put {E D : Dk} (h : From E D) {n : Nat} {f g : Fl} {u : Int} (hf : D.files[n]? = some f) (hp : g.data.take f.data.length = f.data) (hs : f.safe ≤ g.safe) (hfs : f.safe ≤ f.data.length) : From E { putFile D n g with used := u } := by
  refine ⟨h.inAll, h.sub, fun p hpm a b ha hb => ?_⟩
  have hn : n < D.files.length := (List.getElem?_eq_some_iff.1 hf).1
  by_cases e : p.2 = n
  · have hb' : (D.files.set n g)[p.2]? = some b := hb
    rw [e, List.getElem?_set_self hn] at hb'
    obtain rfl := Option.some.inj hb'
    obtain ⟨h1, h2⟩ := h.files p hpm a f ha (by rw [e]; exact hf)
    refine ⟨?_, by omega⟩
    have hle : a.data.length ≤ f.data.length := by omega
    rw [← h1]
    have e2 : g.data.take a.data.length = (g.data.take f.data.length).take a.data.length := by rw [List.take_take, Nat.min_eq_left hle]
    have e3 : (f.data.take a.data.length).length = a.data.length := by rw [List.length_take]; omega
    rw [e3, e2, hp]
  · have hb' : (D.files.set n g)[p.2]? = some b := hb
    rw [List.getElem?_set_ne (fun q => e q.symm)] at hb'
    exact h.files p hpm a b ha hb'

theorem from_create {E D : Dk} {k : Nat} (h : From E D) (hg : Good (k + 2) D) (hE : ∀ p ∈ E.now, p.2 < E.files.length) (x : List UInt8) : From E (create D x).2 := by
  have hc := good_count (k := k + 1) hg
  have hs := h.count
  have e0 : create D x = (let (e, D) := count D; if e ≠ 0 then (e, D) else if !label x then (10, D) else if (getM D.now x).isSome then (7, D) else if 4096 ≤ D.now.length then (3, D) else (0, turn (moreF D) (.put x D.files.length))) := rfl
  rw [e0]
  obtain ⟨⟨r, D'⟩, hcd⟩ : ∃ y, y = count D := ⟨_, rfl⟩
  rw [← hcd] at hc hs ⊢
  dsimp only at hc hs ⊢
  split
  · exact hs
  split
  · exact hs
  split
  · exact hs
  split
  · exact hs
  · next _ _ h3 _ =>
    have hgn : getM D'.now x = none := by
      cases hq : getM D'.now x with
      | none => rfl
      | some n => rw [hq] at h3; simp at h3
    have hput : ∀ p ∈ D'.now, p ∈ putM D'.now x D'.files.length := fun p hp => (putM_perm _ _ _).mem_iff.2 (List.mem_cons_of_mem _ (by rw [delM_none hgn]; exact hp))
    refine ⟨fun p hp j => ?_, fun j p hp => ?_, fun p hp f g h1 h2 => ?_⟩
    · rw [replay_snoc]
      split
      · exact hs.inAll p hp j
      · show p ∈ putM (replay D' D'.chs.length) x D'.files.length
        rw [hc.whole]
        exact hput p (by rw [← hc.whole]; exact hs.inAll p hp _)
    · rw [replay_snoc] at hp
      show p ∈ putM D'.now x D'.files.length
      split at hp
      · exact hput p (hs.sub j p hp)
      · have hp' : p ∈ putM (replay D' D'.chs.length) x D'.files.length := hp
        rw [hc.whole] at hp'
        exact hp'
    · have hin : p ∈ D'.now := by rw [← hc.whole]; exact hs.inAll p hp _
      have hlt := hc.ok.now p hin
      have h2' : (D'.files ++ [⟨[], 0⟩])[p.2]? = some g := h2
      rw [List.getElem?_append_left hlt] at h2'
      exact hs.files p hp f g h1 h2'
theorem from_append {E D : Dk} {k : Nat} (h : From E D) (hg : Good (k + 1) D) (x d : List UInt8) : From E (append D x d).2 := by
  have hs := h.openF x
  have hc := good_openF (k := k) (x := x) hg
  obtain ⟨⟨⟨o, e⟩, D'⟩, hcd⟩ : ∃ z, z = openF D x := ⟨_, rfl⟩
  unfold append
  have hcd' := hcd
  rw [← hcd] at hs hc ⊢
  cases o with
  | none => exact hs
  | some n =>
    have hgt := openF_get hcd'.symm
    dsimp only at hs hc ⊢
    have hn := fits_get hc.ok.now hgt
    obtain ⟨f, hf⟩ : ∃ f, D'.files[n]? = some f := ⟨_, List.getElem?_eq_getElem hn⟩
    have hgd : D'.files.getD n ⟨[], 0⟩ = f := by rw [List.getD, hf]; rfl
    rw [hgd]
    split
    · exact hs
    · split
      · exact hs
      · exact hs.put hf (by show (f.data ++ d).take f.data.length = f.data; rw [List.take_append_of_le_length (Nat.le_refl _), List.take_length]) (Nat.le_refl _) (hc.ok.lens f (List.mem_of_getElem? hf)).2
theorem from_sync {E D : Dk} {k : Nat} (h : From E D) (hg : Good (k + 1) D) (x : List UInt8) : From E (sync D x).2 := by
  have hs := h.openF x
  have hc := good_openF (k := k) (x := x) hg
  obtain ⟨⟨⟨o, e⟩, D'⟩, hcd⟩ : ∃ z, z = openF D x := ⟨_, rfl⟩
  unfold sync
  have hcd' := hcd
  rw [← hcd] at hs hc ⊢
  cases o with
  | none => exact hs
  | some n =>
    have hgt := openF_get hcd'.symm
    dsimp only at hs hc ⊢
    have hn := fits_get hc.ok.now hgt
    obtain ⟨f, hf⟩ : ∃ f, D'.files[n]? = some f := ⟨_, List.getElem?_eq_getElem hn⟩
    have hgd : D'.files.getD n ⟨[], 0⟩ = f := by rw [List.getD, hf]; rfl
    have hl := (hc.ok.lens f (List.mem_of_getElem? hf)).2
    rw [hgd, putFile_used]
    exact hs.put hf List.take_length hl hl
theorem from_syncDir {E D : Dk} {k : Nat} (h : From E D) (hg : Good (k + 1) D) : From E (syncDir D).2 := by
  have hs := h.count
  have hc := good_count (k := k) hg
  unfold syncDir
  obtain ⟨⟨r, D'⟩, hcd⟩ : ∃ y, y = count D := ⟨_, rfl⟩
  rw [← hcd] at hs hc ⊢
  dsimp only at hs hc ⊢
  split
  · exact hs
  · have hr : ∀ j, replay { D' with safe := D'.now, chs := [] } j = D'.now := fun j => by simp [replay]
    exact ⟨fun p hp j => by rw [hr]; rw [← hc.whole]; exact hs.inAll p hp _, fun j p hp => by rw [hr] at hp; exact hp, hs.files⟩

/-- The law's second list: it makes, appends, makes safe. -/
def moreN (D : Dk) (x : OpV) : Dk := if x.kind = 0 ∨ x.kind = 1 ∨ x.kind = 4 ∨ x.kind = 5 then doN D x else D
theorem from_more {E D : Dk} {k : Nat} (h : From E D) (hg : Good (k + 2) D) (hE : ∀ p ∈ E.now, p.2 < E.files.length) (x : OpV) : From E (moreN D x) := by
  unfold moreN
  split
  · next hk =>
    unfold doN
    split
    · exact from_create h hg hE _
    split
    · exact from_append (k := k) h (hg.le (by omega)) _ _
    split
    · exact from_sync (k := k) h (hg.le (by omega)) _
    split
    · exact from_syncDir (k := k) h (hg.le (by omega))
    · omega
  · exact h

theorem told_mem {D : Dk} {t : Told} (h : t ∈ filesN D) : ∃ n, getM D.now t.1 = some n ∧ t = (t.1, (D.files.getD n ⟨[], 0⟩).data, (D.files.getD n ⟨[], 0⟩).safe) := by
  obtain ⟨x, hx, rfl⟩ := List.mem_map.1 h
  obtain ⟨n, hn⟩ := names_get hx
  refine ⟨n, hn, ?_⟩
  unfold fileOf
  rw [hn]; rfl
theorem mem_told {k : Nat} {D : Dk} (hg : Good k D) {x : List UInt8} {n : Nat} (h : (x, n) ∈ D.now) : (x, (D.files.getD n ⟨[], 0⟩).data, (D.files.getD n ⟨[], 0⟩).safe) ∈ filesN D := by
  refine List.mem_map.2 ⟨x, (names_perm D.now).mem_iff.2 (List.mem_map.2 ⟨(x, n), h, rfl⟩), ?_⟩
  unfold fileOf
  rw [hg.dir.get h]; rfl

/-- What is done behind a safe disk is there as a beginning, whatever the crash says. -/
theorem safe_end {E D : Dk} {k k' : Nat} (hE : Good k' E) (h : From E D) (hg : Good k D) (hu : D.down = false) (c : Int × List Int) : ∃ D', restartN { D with down := true, crash := c } = (0, D') ∧ Up D' ∧ Good k D' ∧
    (∀ t ∈ filesN E, ∃ q ∈ filesN D', Grown t q) ∧ (∀ t ∈ filesN D', ∃ q ∈ filesN D, Grown t q) := by
  have hgd : Good k { D with down := true, crash := c } := Good.like (D' := { D with down := true, crash := c }) hg rfl rfl rfl rfl rfl rfl k (Nat.le_refl _) hg.bcalls hg.ok.left
  have hgr := good_restart hgd
  obtain ⟨m, hm⟩ : ∃ m, m = (c.1 % ((D.chs.length : Int) + 1)).toNat := ⟨_, rfl⟩
  have e : restartN { D with down := true, crash := c } = (0, restarted { D with down := true, crash := c } m) := by rw [hm]; rfl
  rw [e] at hgr
  have hnow : (restarted { D with down := true, crash := c } m).now = replay D m := rfl
  have hcuts : Cuts D.files (restarted { D with down := true, crash := c } m).files := cutAll_cuts _ _ _ _ (fun f hf => (hg.ok.lens f hf).2)
  have hlen : (restarted { D with down := true, crash := c } m).files.length = D.files.length := hcuts.1
  have hget : ∀ n, n < D.files.length → ∃ f g, D.files[n]? = some f ∧ (restarted { D with down := true, crash := c } m).files[n]? = some g ∧ Cut f g ∧ D.files.getD n ⟨[], 0⟩ = f ∧ (restarted { D with down := true, crash := c } m).files.getD n ⟨[], 0⟩ = g := by
    intro n hn
    have h1 : D.files[n]? = some D.files[n] := List.getElem?_eq_getElem hn
    have h2 : (restarted { D with down := true, crash := c } m).files[n]? = some ((restarted { D with down := true, crash := c } m).files[n]'(by rw [hlen]; exact hn)) := List.getElem?_eq_getElem _
    exact ⟨_, _, h1, h2, hcuts.2 n _ _ h1 h2, by rw [List.getD, h1]; rfl, by rw [List.getD, h2]; rfl⟩
  refine ⟨_, e, ⟨rfl, rfl⟩, hgr, fun t ht => ?_, fun t ht => ?_⟩
  · obtain ⟨n, hn, et⟩ := told_mem ht
    have hp := getM_mem hn
    have hr := h.inAll _ hp m
    have hlt : n < D.files.length := replay_fits hg.ok m _ hr
    obtain ⟨f, g, hf, hg', hcut, ef, eg⟩ := hget n hlt
    have hltE := hE.ok.now _ hp
    have hfE : E.files[n]? = some E.files[n] := List.getElem?_eq_getElem hltE
    have eE : E.files.getD n ⟨[], 0⟩ = E.files[n] := by rw [List.getD, hfE]; rfl
    obtain ⟨h1, h2⟩ := h.files _ hp _ f hfE hf
    refine ⟨_, mem_told hgr (x := t.1) (n := n) (by rw [hnow]; exact hr), ?_⟩
    rw [et, eE, eg]
    refine ⟨rfl, ?_, ?_⟩
    · show (E.files[n]).data.length ≤ g.data.length
      have := hcut.keeps; omega
    · show g.data.take (E.files[n]).data.length = (E.files[n]).data
      obtain ⟨q, hq⟩ := hcut.pre
      have hk := hcut.keeps
      rw [hq] at hk ⊢
      rw [List.length_take] at hk
      rw [List.take_take, Nat.min_eq_left (by omega), h1]
  · obtain ⟨n, hn, et⟩ := told_mem ht
    have hp := getM_mem hn
    rw [hnow] at hp
    have hlt : n < D.files.length := replay_fits hg.ok m _ hp
    obtain ⟨f, g, hf, hg', hcut, ef, eg⟩ := hget n hlt
    refine ⟨_, mem_told hg (x := t.1) (n := n) (h.sub m _ hp), ?_⟩
    rw [et, eg, ef]
    obtain ⟨q, hq⟩ := hcut.pre
    refine ⟨rfl, ?_, ?_⟩
    · show g.data.length ≤ f.data.length
      rw [hq, List.length_take]; omega
    · show f.data.take g.data.length = g.data
      rw [hq, List.length_take]
      by_cases hqq : q ≤ f.data.length
      · rw [Nat.min_eq_left hqq]
      · rw [Nat.min_eq_right (by omega), List.take_length, List.take_of_length_le (by omega)]
end Go.Proofs.Ytcfdfpjemonhoaa.Dk
