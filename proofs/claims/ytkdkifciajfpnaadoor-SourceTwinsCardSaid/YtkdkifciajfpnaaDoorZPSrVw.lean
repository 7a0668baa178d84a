import Derived.Test.YtkdkifciajfpnaaDoorZPSrRead
import Derived.Test.YtkdkifciajfpnaaDoorZPSrMove
set_option linter.unusedSimpArgs false
set_option linter.unusedVariables false
/-
  A tree's view: names, kinds, numbers, ticks; what calls do to it, so that a closed run can be reckoned. No walk stands in this text.
-/
namespace Go.Proofs.YtkdkifciajfpnaaDoor.Sr
open Go.RowKit Go.Proofs.YtkdkifciajfpnaaDoor.Rf Go.Proofs.YtkdkifciajfpnaaDoor.Nm Go.Proofs.YtkdkifciajfpnaaDoor.St

/-- A node's names, kind, number, tick. -/
abbrev VN := PN × Nat × Nat × Int
structure VS where
  L : List VN
  clock : Nat
  most : Nat
def keyV (e : TE) : VN := (e.nm, e.at_.node, e.ino, e.tick)
def viewT (T : Tr) : VS := ⟨T.L.map keyV, T.clock, T.most⟩
def vget (n : PN) (L : List VN) : Option VN := L.find? fun e => decide (e.1 = n)
theorem vget_map (n : PN) (L : List TE) : vget n (L.map keyV) = (getT n L).map keyV := by
  rw [vget, getT, List.find?_map]; rfl
def vkid (n : PN) (x : VN) : Bool := match x.1 with | [] => false | a :: r => decide ((a :: r).dropLast = n)
theorem vkid_key (n : PN) (e : TE) : (kidOf n e).isSome = vkid n (keyV e) := by
  unfold kidOf vkid keyV
  cases h : e.nm with
  | nil => simp
  | cons a r =>
    simp only [ne_eq, reduceCtorEq, not_false_eq_true, dite_true]
    by_cases hd : (a :: r).dropLast = n
    · rw [if_pos hd]; simp [hd]
    · rw [if_neg hd]; simp [hd]
def vkids (n : PN) (L : List VN) : Nat := L.countP (vkid n)
theorem vkids_map (n : PN) (L : List TE) : (kidsT L n).length = vkids n (L.map keyV) := by
  rw [kidsT, List.length_filterMap_eq_countP, vkids, List.countP_map]
  congr 1
  funext e
  exact vkid_key n e
def vabvE (l : PN) (L : List VN) : Int := match vget l.dropLast L with | none => 6 | some u => if u.2.1 = 2 then 0 else 11
theorem vabvE_map (l : PN) (L : List TE) : abvE l L = vabvE l (L.map keyV) := by
  rw [vabvE, abvE, vget_map]
  cases getT l.dropLast L <;> rfl
def vdeep (n : PN) (L : List VN) : Nat := (L.filter fun e => n.isPrefixOf e.1).foldr (fun e d => max (e.1.length - n.length) d) 0
theorem vdeep_map (n : PN) (L : List TE) : deepN L n = vdeep n (L.map keyV) := by
  rw [deepN, subT, vdeep, List.filter_map, List.foldr_map]; rfl
def vins (e : VN) : List VN → List VN
  | [] => [e]
  | y :: r => if ahd e.1 y.1 then e :: y :: r else y :: vins e r
theorem vins_map (e : TE) : ∀ L : List TE, (insT e L).map keyV = vins (keyV e) (L.map keyV)
  | [] => rfl
  | y :: r => by
    rw [insT, List.map_cons, vins]
    show _ = if ahd e.nm y.nm then _ else _
    by_cases h : ahd e.nm y.nm = true
    · rw [if_pos h, if_pos h]; rfl
    · rw [if_neg h, if_neg h, List.map_cons, vins_map e r]
def vsort (L : List VN) : List VN := L.foldr vins []
theorem vsort_map : ∀ L : List TE, (sortT L).map keyV = vsort (L.map keyV)
  | [] => rfl
  | y :: r => by
    show (insT y (sortT r)).map keyV = vins (keyV y) (vsort (r.map keyV))
    rw [vins_map, vsort_map r]
def vren (a b : PN) (x : VN) : VN := (renP a b x.1, x.2)
def vtick (m : PN) (c : Int) (L : List VN) : List VN := L.map fun x => if x.1 = m then (x.1, x.2.1, x.2.2.1, c) else x
theorem vtick_map {L : List TE} (ho : (ownL L).Nodup) (hs : SrtT L) {q : Nat} {m : PN} (h : ∃ e ∈ L, e.p = q ∧ e.nm = m) (c : Int) : (tick1 q c L).map keyV = vtick m c (L.map keyV) := by
  obtain ⟨e, he, rfl, rfl⟩ := h
  rw [tick1, vtick, List.map_map, List.map_map]
  refine List.map_congr_left (fun x hx => ?_)
  show keyV (if x.p = e.p then _ else x) = if x.nm = e.nm then _ else _
  by_cases h : x.p = e.p
  · have hxe : x = e := flat_inj ho hx he (x := x.p) (by simp [ownE]) (by rw [h]; simp [ownE])
    rw [if_pos h, if_pos (by rw [hxe])]; rfl
  · rw [if_neg h, if_neg (fun hn => h (by rw [srtT_inj hs hx he hn]))]
theorem srt_tick1 {L : List TE} (hs : SrtT L) (q : Nat) (c : Int) : SrtT (tick1 q c L) := by
  rw [SrtT, tick1, List.pairwise_map]
  refine List.Pairwise.imp ?_ hs
  intro a b hab
  show ahd (if a.p = q then ({ a with tick := c } : TE) else a).nm (if b.p = q then ({ b with tick := c } : TE) else b).nm = true
  have h1 : (if a.p = q then ({ a with tick := c } : TE) else a).nm = a.nm := by split <;> rfl
  have h2 : (if b.p = q then ({ b with tick := c } : TE) else b).nm = b.nm := by split <;> rfl
  rw [h1, h2]; exact hab
theorem at_tick1 {L : List TE} (q : Nat) (c : Int) {a : Nat} {m : PN} (h : ∃ e ∈ L, e.p = a ∧ e.nm = m) : ∃ e ∈ tick1 q c L, e.p = a ∧ e.nm = m := by
  obtain ⟨e, he, h1, h2⟩ := h
  exact ⟨_, List.mem_map.2 ⟨e, he, rfl⟩, by rw [(tick1_fine q c L e he).2.1]; exact h1, by rw [(tick1_fine q c L e he).1]; exact h2⟩
theorem vtick_one {L : List TE} (ho : (ownL L).Nodup) (hs : SrtT L) {q : Nat} {m : PN} (h : ∃ e ∈ L, e.p = q ∧ e.nm = m) (c : Int) : (tickT [q] c L).map keyV = vtick m c (L.map keyV) := vtick_map ho hs h c
theorem vtick_two {L : List TE} (ho : (ownL L).Nodup) (hs : SrtT L) {q q2 : Nat} {m m2 : PN} (h : ∃ e ∈ L, e.p = q ∧ e.nm = m) (h2 : ∃ e ∈ L, e.p = q2 ∧ e.nm = m2) (c : Int) : (tickT [q, q2] c L).map keyV = vtick m2 c (vtick m c (L.map keyV)) := by
  show (tick1 q2 c (tick1 q c L)).map keyV = _
  rw [vtick_map (by rw [own_tick1]; exact ho) (srt_tick1 hs q c) (at_tick1 q c h2), vtick_map ho hs h]
theorem srt_untick {L : List TE} {q : Nat} {c : Int} (hs : SrtT (tick1 q c L)) : SrtT L := by
  rw [SrtT, tick1, List.pairwise_map] at hs
  refine List.Pairwise.imp ?_ hs
  intro a b hab
  have hab : ahd (if a.p = q then ({ a with tick := c } : TE) else a).nm (if b.p = q then ({ b with tick := c } : TE) else b).nm = true := hab
  have h1 : (if a.p = q then ({ a with tick := c } : TE) else a).nm = a.nm := by split <;> rfl
  have h2 : (if b.p = q then ({ b with tick := c } : TE) else b).nm = b.nm := by split <;> rfl
  rw [h1, h2] at hab; exact hab
theorem srt_unticks {c : Int} : ∀ {qs : List Nat} {L : List TE}, SrtT (tickT qs c L) → SrtT L
  | [], _, h => h
  | _ :: _, _, h => srt_untick (srt_unticks (L := tick1 _ _ _) h)

/-! ### calls -/
inductive VOp where
  | add (l : PN) (k : Nat)
  | drop (l : PN)
  | move (a b : PN)
  | has (l : PN) (k ino : Nat) (t : Int)
def verr : VOp → VS → Int
  | .add l _, V => if (vget l V.L).isSome then 7 else if vabvE l V.L ≠ 0 then vabvE l V.L else if 256 ≤ vkids l.dropLast V.L ∨ 1099511627776 ≤ V.clock then 3 else 0
  | .has l k i t, V => if vget l V.L = some (l, k, i, t) then 0 else 1
  | .drop l, V => match vget l V.L with | none => 6 | some _ => if l = [] then 1 else if 1099511627776 ≤ V.clock then 3 else 0
  | .move a b, V => match vget a V.L with
    | none => 6
    | some _ => if a = [] ∨ (a.length < b.length ∧ a = b.take a.length) then 1 else if (vget b V.L).isSome then 7 else if vabvE b V.L ≠ 0 then vabvE b V.L
      else if 16 < b.length + vdeep a V.L then 10 else if (b.dropLast ≠ a.dropLast ∧ 256 ≤ vkids b.dropLast V.L) ∨ 1099511627776 ≤ V.clock then 3 else 0
def vdo : VOp → VS → VS
  | .add l k, V => ⟨vtick l.dropLast ((V.clock + 1 : Nat) : Int) (vtick l ((V.clock + 1 : Nat) : Int) (vins (l, k, V.most + 1, 0) V.L)), V.clock + 1, V.most + 1⟩
  | .has _ _ _ _, V => V
  | .drop l, V => ⟨vtick l.dropLast ((V.clock + 1 : Nat) : Int) (V.L.filter fun e => !l.isPrefixOf e.1), V.clock + 1, V.most⟩
  | .move a b, V => ⟨vtick b.dropLast ((V.clock + 1 : Nat) : Int) (vtick a.dropLast ((V.clock + 1 : Nat) : Int) (vsort (V.L.map (vren a b)))), V.clock + 1, V.most⟩
def vnext (o : VOp) (V : VS) : VS := if verr o V = 0 then vdo o V else V
theorem vnext_has (l : PN) (k i : Nat) (t : Int) (V : VS) : vnext (.has l k i t) V = V := by rw [vnext]; split <;> rfl

theorem verr_add {p d : List UInt8} {A : XA} {T : Tr} (hp : splitE p = 0) (hA : chkA A = true) (hd : d.length ≤ 1048576) (k : Nat) : addE p d A T = verr (.add (splitL p) k) (viewT T) := by
  rw [addE, if_neg (by rw [hp]; simp), if_neg (by rw [hA]; simp; omega), verr]
  show _ = if (vget (splitL p) (T.L.map keyV)).isSome then _ else if vabvE (splitL p) (T.L.map keyV) ≠ 0 then vabvE (splitL p) (T.L.map keyV) else if 256 ≤ vkids (splitL p).dropLast (T.L.map keyV) ∨ 1099511627776 ≤ T.clock then 3 else 0
  rw [vget_map, Option.isSome_map, ← vabvE_map, ← vkids_map]
theorem verr_drop {p : List UInt8} {T : Tr} (hp : splitE p = 0) : dropE p T = verr (.drop (splitL p)) (viewT T) := by
  rw [dropE, if_neg (by rw [hp]; simp), verr]
  have hv : (viewT T).L = T.L.map keyV := rfl
  rw [hv, vget_map]
  cases getT (splitL p) T.L <;> rfl
theorem verr_move {p q : List UInt8} {T : Tr} (hp : splitE p = 0) (hq : splitE q = 0) : moveE p q T = verr (.move (splitL p) (splitL q)) (viewT T) := by
  rw [moveE, if_neg (by rw [hp]; simp), if_neg (by rw [hq]; simp), verr]
  have hv : (viewT T).L = T.L.map keyV := rfl
  rw [hv, vget_map]
  cases getT (splitL p) T.L with
  | none => rfl
  | some e =>
    show _ = if splitL p = [] ∨ ((splitL p).length < (splitL q).length ∧ splitL p = (splitL q).take (splitL p).length) then _ else if (vget (splitL q) (T.L.map keyV)).isSome then _ else if vabvE (splitL q) (T.L.map keyV) ≠ 0 then vabvE (splitL q) (T.L.map keyV)
      else if 16 < (splitL q).length + vdeep (splitL p) (T.L.map keyV) then _ else if ((splitL q).dropLast ≠ (splitL p).dropLast ∧ 256 ≤ vkids (splitL q).dropLast (T.L.map keyV)) ∨ 1099511627776 ≤ T.clock then _ else _
    rw [vget_map, Option.isSome_map, ← vabvE_map, ← vkids_map, ← vdeep_map]
theorem view_add {B : Nat} {w : World} {r : Nat} {T : Tr} {l : PN} {k : Nat} {n u : TE} (hu : u ∈ T.L) (hun : u.nm = l.dropLast) (hn : n.nm = l) (hi : n.ino = T.most + 1) (hk : n.at_.node = k) (ht : n.tick = 0)
    (h : TreeAt B w r { T with clock := T.clock + 1, most := T.most + 1, L := tickT [n.p, u.p] ((T.clock + 1 : Nat) : Int) (insT n T.L) }) :
    viewT { T with clock := T.clock + 1, most := T.most + 1, L := tickT [n.p, u.p] ((T.clock + 1 : Nat) : Int) (insT n T.L) } = vdo (.add l k) (viewT T) := by
  have ho := h.own_nod
  have ho : (ownL (tickT [n.p, u.p] ((T.clock + 1 : Nat) : Int) (insT n T.L))).Nodup := ho
  rw [own_tickT] at ho
  have hs : SrtT (insT n T.L) := srt_unticks h.srt
  show VS.mk ((tickT [n.p, u.p] ((T.clock + 1 : Nat) : Int) (insT n T.L)).map keyV) (T.clock + 1) (T.most + 1) = _
  rw [vtick_two ho hs ⟨n, mem_insT.2 (.inl rfl), rfl, rfl⟩ ⟨u, mem_insT.2 (.inr hu), rfl, rfl⟩, vins_map, hun, hn]
  have : keyV n = (l, k, T.most + 1, 0) := by rw [keyV, hn, hk, hi, ht]
  rw [this]; rfl
theorem filter_key (l : PN) (L : List TE) : (dropT l L).map keyV = (L.map keyV).filter fun e => !l.isPrefixOf e.1 := by
  rw [dropT, List.filter_map]; rfl
theorem view_drop {B : Nat} {w : World} {r : Nat} {T : Tr} {p : List UInt8} (hp : splitE p = 0) (hT : TreeAt B w r T) {w' : World} (h : TreeAt B w' r (dropTr p T)) : viewT (dropTr p T) = vnext (.drop (splitL p)) (viewT T) := by
  rw [vnext, ← verr_drop hp]
  by_cases h0 : dropE p T = 0
  · rw [if_pos h0]
    have hne : splitL p ≠ [] := by
      intro hc
      rw [dropE, if_neg (by rw [hp]; simp)] at h0
      cases hg : getT (splitL p) T.L with
      | none => rw [hg] at h0; cases h0
      | some e => rw [hg] at h0; dsimp only at h0; rw [if_pos hc] at h0; cases h0
    obtain ⟨e, he⟩ : ∃ e, getT (splitL p) T.L = some e := by
      cases hg : getT (splitL p) T.L with
      | none => rw [dropE, if_neg (by rw [hp]; simp), hg] at h0; cases h0
      | some e => exact ⟨e, rfl⟩
    obtain ⟨hem, hen⟩ := getT_nm he
    obtain ⟨u, _, _, hu, _, hun, _, hgu, _⟩ := hT.up hem (by rw [hen]; exact hne)
    rw [hen] at hun hgu
    have hTr : dropTr p T = { T with clock := T.clock + 1, L := tickT [u.p] ((T.clock + 1 : Nat) : Int) (dropT (splitL p) T.L) } := by
      rw [dropTr, if_pos h0, hgu]
    rw [hTr] at h ⊢
    have ho : (ownL (tickT [u.p] ((T.clock + 1 : Nat) : Int) (dropT (splitL p) T.L))).Nodup := h.own_nod
    rw [own_tickT] at ho
    have hs : SrtT (dropT (splitL p) T.L) := srt_unticks h.srt
    have hud : u ∈ dropT (splitL p) T.L := by
      rw [dropT, List.mem_filter]
      refine ⟨hu, ?_⟩
      rw [hun]
      cases hpre : (splitL p).isPrefixOf (splitL p).dropLast with
      | false => rfl
      | true =>
        have h1 := (List.isPrefixOf_iff_prefix.1 hpre).length_le
        rw [List.length_dropLast] at h1
        have h2 := List.length_pos_iff.2 hne
        omega
    show VS.mk ((tickT [u.p] ((T.clock + 1 : Nat) : Int) (dropT (splitL p) T.L)).map keyV) (T.clock + 1) T.most = _
    rw [vtick_one ho hs ⟨u, hud, rfl, hun⟩, filter_key]; rfl
  · rw [if_neg h0, dropTr_no h0]
theorem map_ren (a b : PN) (L : List TE) : (L.map (renE (renP a b))).map keyV = (L.map keyV).map (vren a b) := by
  rw [List.map_map, List.map_map]; rfl
theorem ren_up {a b : PN} (n : PN) (h : a.isPrefixOf n = false) : renP a b n = n := by rw [renP, if_neg (by rw [h]; simp)]
theorem moved_at {L : List TE} {a b : PN} {u : TE} (hu : u ∈ L) (h : a.isPrefixOf u.nm = false) : ∃ e ∈ moveT a b L, e.p = u.p ∧ e.nm = u.nm :=
  ⟨renE (renP a b) u, moveT_mem.2 ⟨u, hu, rfl⟩, rfl, ren_up _ h⟩
theorem view_move {B : Nat} {w : World} {r : Nat} {T : Tr} {p q : List UInt8} (hp : splitE p = 0) (hq : splitE q = 0) (hT : TreeAt B w r T) {w' : World} (h : TreeAt B w' r (moveTr p q T)) : viewT (moveTr p q T) = vnext (.move (splitL p) (splitL q)) (viewT T) := by
  rw [vnext, ← verr_move hp hq]
  by_cases h0 : moveE p q T = 0
  · rw [if_pos h0]
    have hM := h0
    rw [moveE, if_neg (by rw [hp]; simp), if_neg (by rw [hq]; simp)] at hM
    cases hg : getT (splitL p) T.L with
    | none => rw [hg] at hM; cases hM
    | some n =>
      rw [hg] at hM
      dsimp only at hM
      by_cases c1 : splitL p = [] ∨ ((splitL p).length < (splitL q).length ∧ splitL p = (splitL q).take (splitL p).length)
      · rw [if_pos c1] at hM; cases hM
      · rw [if_neg c1] at hM
        have hne : splitL p ≠ [] := fun h => c1 (.inl h)
        by_cases c2 : (getT (splitL q) T.L).isSome = true
        · rw [if_pos c2] at hM; cases hM
        · rw [if_neg c2] at hM
          by_cases c3 : abvE (splitL q) T.L ≠ 0
          · rw [if_pos c3] at hM; exact absurd hM c3
          · have c3 : abvE (splitL q) T.L = 0 := Classical.not_not.1 c3
            have hqne : splitL q ≠ [] := by
              intro hc
              obtain ⟨e, he, _⟩ := hT.root
              rw [hc, he] at c2; exact c2 rfl
            obtain ⟨hnm, hnn⟩ := getT_nm hg
            obtain ⟨u, _, _, hu, _, hun, _, hgu, _⟩ := hT.up hnm (by rw [hnn]; exact hne)
            rw [hnn] at hun hgu
            cases hgd : getT (splitL q).dropLast T.L with
            | none => rw [abvE, hgd] at c3; cases c3
            | some d =>
              obtain ⟨hdm, hdn⟩ := getT_nm hgd
              have hTr : moveTr p q T = { T with clock := T.clock + 1, L := tickT [u.p, d.p] ((T.clock + 1 : Nat) : Int) (moveT (splitL p) (splitL q) T.L) } := by
                rw [moveTr, if_pos h0, hgu, hgd]
              rw [hTr] at h ⊢
              have ho : (ownL (tickT [u.p, d.p] ((T.clock + 1 : Nat) : Int) (moveT (splitL p) (splitL q) T.L))).Nodup := h.own_nod
              rw [own_tickT] at ho
              have hs : SrtT (moveT (splitL p) (splitL q) T.L) := srt_unticks h.srt
              have h1 : (splitL p).isPrefixOf u.nm = false := by
                cases hpre : (splitL p).isPrefixOf u.nm with
                | false => rfl
                | true =>
                  have h1 := (List.isPrefixOf_iff_prefix.1 hpre).length_le
                  rw [hun, List.length_dropLast] at h1
                  have h2 := List.length_pos_iff.2 hne
                  omega
              have h2 : (splitL p).isPrefixOf d.nm = false := by
                cases hpre : (splitL p).isPrefixOf d.nm with
                | false => rfl
                | true =>
                  have k1 := List.isPrefixOf_iff_prefix.1 hpre
                  rw [hdn] at k1
                  have k2 := k1.length_le
                  rw [List.length_dropLast] at k2
                  have k3 := List.length_pos_iff.2 hqne
                  have k4 : splitL p <+: splitL q := k1.trans (List.dropLast_prefix _)
                  exact absurd (.inr ⟨by omega, List.prefix_iff_eq_take.1 k4⟩) c1
              obtain ⟨eu, heu, hep, hen⟩ := moved_at (b := splitL q) hu h1
              obtain ⟨ed, hed, hdp, hdn2⟩ := moved_at (b := splitL q) hdm h2
              show VS.mk ((tickT [u.p, d.p] ((T.clock + 1 : Nat) : Int) (moveT (splitL p) (splitL q) T.L)).map keyV) (T.clock + 1) T.most = _
              rw [vtick_two ho hs ⟨eu, heu, hep, hen.trans hun⟩ ⟨ed, hed, hdp, hdn2.trans hdn⟩, moveT, vsort_map, map_ren]; rfl
  · rw [if_neg h0, moveTr_no h0]
end Go.Proofs.YtkdkifciajfpnaaDoor.Sr
