import Derived.Test.YtnkapojbijbbaaaGreatDoorZPStIn
import Derived.Test.YtnkapojbijbbaaaGreatDoorZPSrRead
import Derived.Test.YtnkapojbijbbaaaGreatDoorZPSrAdd
import Derived.Test.YtnkapojbijbbaaaGreatDoorZPRowKit
import Derived.Test.YtnkapojbijbbaaaGreatDoorZPSrXdel
import Derived.Test.YtnkapojbijbbaaaGreatDoorZPSrNew
import Derived.Test.YtnkapojbijbbaaaGreatDoorZPSrPieces
set_option linter.unusedSimpArgs false
set_option linter.unusedVariables false
namespace Go.Proofs.YtnkapojbijbbaaaGreatDoor.Sr
open Go.RowKit Go.Maps Go.WideMaps Rf Go.Proofs.YtnkapojbijbbaaaGreatDoor.Nm St
abbrev Rise (M : MV Nat) : Prop := M.Pairwise fun a b => lt a.1 b.1 = true
structure NodeW (w : World) (L : List TE) (e : TE) : Prop where
 cells : w.heap[e.p]? = some (.cells e.cells.toArray NdT)
 kids : ∀ b, e.m = some b → ∃ M : MV Nat, Rise M ∧ w.ownsMap Tryz.prog 9 Rv b 1000000 (toD ptr M) ∧ ∀ k, k ∈ M ↔ ∃ x ∈ L, x.nm = e.nm ++ [k.1] ∧ x.p = k.2
 xs : XsAt w e.xv e.at_.xs
theorem NodeW.kept {w w' : World} {L : List TE} {e : TE} (h : NodeW w L e) (hs : w.heap.size ≤ w'.heap.size) (hb : ∀ b ∈ ownE e ++ xob e.at_.xs e.xv, w'.heap[b]? = w.heap[b]?) : NodeW w' L e := by
 refine ⟨(hb _ (by simp [ownE])).trans h.cells, fun b hm => ?_, h.xs.kept hs (fun b hx => hb b (by simp [hx]))⟩
 obtain ⟨M, h1, h2, h3⟩ := h.kids b hm
 exact ⟨M, h1, ownsMap_block h2 (hb b (by simp [ownE, hm])), h3⟩
theorem NodeW.lt {w : World} {L : List TE} {e : TE} (h : NodeW w L e) : ∀ b ∈ ownE e ++ xob e.at_.xs e.xv, b < w.heap.size := by
 intro b hb
 rcases List.mem_append.1 hb with hb | hb
 · rw [ownE, List.mem_cons] at hb
   rcases hb with rfl | hb
   · exact lt_of_heap h.cells
   · obtain ⟨M, _, h2, _⟩ := h.kids b (by simpa using hb)
     exact h2.lt
 · exact h.xs.lt b hb
theorem NodeW.wide {w : World} {L L' : List TE} {c : TE} (h : NodeW w L c) (hL : ∀ x s, x.nm = c.nm ++ [s] → (x ∈ L' ↔ x ∈ L)) : NodeW w L' c := by
 refine ⟨h.cells, fun b hm => ?_, h.xs⟩
 obtain ⟨M, h1, h2, h3⟩ := h.kids b hm
 refine ⟨M, h1, h2, fun k => (h3 k).trans ?_⟩
 constructor
 · rintro ⟨x, hx, h4, h5⟩; exact ⟨x, (hL x _ h4).2 hx, h4, h5⟩
 · rintro ⟨x, hx, h4, h5⟩; exact ⟨x, (hL x _ h4).1 hx, h4, h5⟩
structure Lies (C0 : Nat) (w : World) (C : List TE) : Prop where
 node : ∀ c ∈ C, NodeW w C c
 nod : (ownL C).Nodup
 xoff : ∀ b ∈ xobL C, b ∉ ownL C
 fresh : ∀ b ∈ ownL C ++ xobL C, C0 ≤ b
 kind : ∀ c ∈ C, (c.at_.node = 2 ↔ c.m ≠ none)
theorem blk_mem {C : List TE} {c : TE} (hc : c ∈ C) {b : Nat} (hb : b ∈ ownE c ++ xob c.at_.xs c.xv) : b ∈ ownL C ++ xobL C := by
 rcases List.mem_append.1 hb with hb | hb
 · exact List.mem_append_left _ (List.mem_flatMap.2 ⟨c, hc, hb⟩)
 · exact List.mem_append_right _ (List.mem_flatMap.2 ⟨c, hc, hb⟩)
theorem Lies.lt {C0 : Nat} {w : World} {C : List TE} (h : Lies C0 w C) : ∀ b ∈ ownL C ++ xobL C, b < w.heap.size := by
 intro b hb
 rcases List.mem_append.1 hb with hb | hb
 · obtain ⟨e, he, hx⟩ := List.mem_flatMap.1 hb
   exact (h.node e he).lt b (by simp [hx])
 · obtain ⟨e, he, hx⟩ := List.mem_flatMap.1 hb
   exact (h.node e he).lt b (by simp [hx])
theorem Lies.kept {C0 : Nat} {w w' : World} {C : List TE} (h : Lies C0 w C) (hs : w.heap.size ≤ w'.heap.size) (hb : ∀ b ∈ ownL C ++ xobL C, w'.heap[b]? = w.heap[b]?) : Lies C0 w' C :=
 ⟨fun c hc => (h.node c hc).kept hs (fun b hx => hb b (blk_mem hc hx)), h.nod, h.xoff, h.fresh, h.kind⟩
theorem Lies.below {C0 : Nat} {w w' : World} {C : List TE} (h : Lies C0 w C) (hb : Below w.heap.size w w') : Lies C0 w' C := h.kept hb.size (fun b hx => hb.block b (h.lt b hx))
theorem Lies.nil (C0 : Nat) (w : World) : Lies C0 w [] := ⟨by simp, by simp [ownL], by simp [xobL], by simp [ownL, xobL], by simp⟩
theorem Lies.append {C0 : Nat} {w w1 : World} {C D : List TE} (h : Lies C0 w D) (hC : Lies w.heap.size w1 C) (hb : Below w.heap.size w w1) (h0 : C0 ≤ w.heap.size)
 (h1 : ∀ c ∈ C, ∀ x ∈ D, ∀ s, x.nm ≠ c.nm ++ [s]) (h2 : ∀ c ∈ D, ∀ x ∈ C, ∀ s, x.nm ≠ c.nm ++ [s]) : Lies C0 w1 (C ++ D) := by
 have hd := h.below hb
 have ho : ownL (C ++ D) = ownL C ++ ownL D := List.flatMap_append
 have hx : xobL (C ++ D) = xobL C ++ xobL D := List.flatMap_append
 have lo : ∀ b ∈ ownL D ++ xobL D, b < w.heap.size := h.lt
 refine ⟨fun c hc => ?_, ?_, ?_, ?_, fun c hc => ?_⟩
 · rcases List.mem_append.1 hc with hc | hc
   · refine (hC.node c hc).wide (fun x s hn => ?_)
     rw [List.mem_append]
     exact ⟨fun hx => hx.elim id (fun hx => absurd hn (h1 c hc x hx s)), .inl⟩
   · refine (hd.node c hc).wide (fun x s hn => ?_)
     rw [List.mem_append]
     exact ⟨fun hx => hx.elim (fun hx => absurd hn (h2 c hc x hx s)) id, .inr⟩
 · rw [ho, List.nodup_append]
   refine ⟨hC.nod, h.nod, fun a ha b hb' hab => ?_⟩
   have e1 := hC.fresh a (List.mem_append_left _ ha)
   have e2 := lo b (List.mem_append_left _ hb')
   omega
 · intro b hb'
   rw [hx, List.mem_append] at hb'
   rw [ho, List.mem_append]
   rintro (hc | hc)
   · rcases hb' with hb' | hb'
     · exact hC.xoff b hb' hc
     · have e1 := hC.fresh b (List.mem_append_left _ hc)
       have e2 := lo b (List.mem_append_right _ hb')
       omega
   · rcases hb' with hb' | hb'
     · have e1 := hC.fresh b (List.mem_append_right _ hb')
       have e2 := lo b (List.mem_append_left _ hc)
       omega
     · exact h.xoff b hb' hc
 · intro b hb'
   rw [ho, hx] at hb'
   simp only [List.mem_append] at hb'
   rcases hb' with (hb' | hb') | (hb' | hb')
   · exact Nat.le_trans h0 (hC.fresh b (List.mem_append_left _ hb'))
   · exact h.fresh b (List.mem_append_left _ hb')
   · exact Nat.le_trans h0 (hC.fresh b (List.mem_append_right _ hb'))
   · exact h.fresh b (List.mem_append_right _ hb')
 · rcases List.mem_append.1 hc with hc | hc
   · exact hC.kind c hc
   · exact h.kind c hc
theorem nodup_inj {α β : Type} {f : α → β} : ∀ {l : List α}, (l.map f).Nodup → ∀ {x y : α}, x ∈ l → y ∈ l → f x = f y → x = y
 | [], _, _, _, h, _, _ => by cases h
 | a :: r, hn, x, y, hx, hy, he => by
   rw [List.map_cons, List.nodup_cons] at hn
   rcases List.mem_cons.1 hx with hxa | hx <;> rcases List.mem_cons.1 hy with hya | hy
   · rw [hxa, hya]
   · exact absurd (List.mem_map.2 ⟨y, hy, by rw [← he, hxa]⟩) hn.1
   · exact absurd (List.mem_map.2 ⟨x, hx, by rw [he, hya]⟩) hn.1
   · exact nodup_inj hn.2 hx hy he
theorem nm_bare (L : List TE) : (L.map bare).map TE.nm = L.map TE.nm := by rw [List.map_map]; rfl
theorem srt_nodup {L : List TE} (h : SrtT L) : (L.map TE.nm).Nodup := by
 rw [List.nodup_iff_pairwise_ne, List.pairwise_map]
 exact List.Pairwise.imp (fun h => ahd_ne h) h
structure TwF (C0 : Nat) (w : World) (T : Tr) (n : PN) (p : Nat) (C : List TE) : Prop where
 perm : (C.map bare).Perm ((subT T.L n).map bare)
 root : ∃ c ∈ C, c.nm = n ∧ c.p = p
 lies : Lies C0 w C
theorem TwF.names {C0 : Nat} {w : World} {T : Tr} {n : PN} {p : Nat} {C : List TE} (h : TwF C0 w T n p C) {x : TE} (hx : x ∈ C) : ∃ t, x.nm = n ++ t := by
 have h1 := h.perm.mem_iff.1 (List.mem_map.2 ⟨x, hx, rfl⟩)
 obtain ⟨y, hy, hyx⟩ := List.mem_map.1 h1
 obtain ⟨_, t, ht⟩ := subT_mem.1 hy
 have : (bare y).nm = (bare x).nm := by rw [hyx]
 exact ⟨t, (show x.nm = y.nm from this.symm).trans ht⟩
theorem TwF.nodup {C0 : Nat} {w : World} {T : Tr} {n : PN} {p : Nat} {C : List TE} (h : TwF C0 w T n p C) (hs : SrtT T.L) : (C.map TE.nm).Nodup := by
 have h1 := h.perm.map TE.nm
 rw [nm_bare, nm_bare] at h1
 exact h1.nodup_iff.2 (srt_nodup (subT_srt hs n))
structure TwL (C0 : Nat) (w : World) (T : Tr) (n : PN) (ks : List (List UInt8)) (M : MV Nat) (D : List TE) : Prop where
 perm : (D.map bare).Perm (ks.flatMap fun k => (subT T.L (n ++ [k])).map bare)
 nodup : ks.Nodup
 rise : Rise M
 mem : ∀ k, k ∈ M ↔ ∃ x ∈ D, x.nm = n ++ [k.1] ∧ x.p = k.2
 lies : Lies C0 w D
theorem TwL.nil (C0 : Nat) (w : World) (T : Tr) (n : PN) : TwL C0 w T n [] [] [] := ⟨by simp, by simp, by simp, by simp, Lies.nil C0 w⟩
theorem TwL.below {C0 : Nat} {w w' : World} {T : Tr} {n : PN} {ks : List (List UInt8)} {M : MV Nat} {D : List TE} (h : TwL C0 w T n ks M D) (hb : Below w.heap.size w w') : TwL C0 w' T n ks M D := ⟨h.perm, h.nodup, h.rise, h.mem, h.lies.below hb⟩
theorem TwL.kept {C0 : Nat} {w w' : World} {T : Tr} {n : PN} {ks : List (List UInt8)} {M : MV Nat} {D : List TE} (h : TwL C0 w T n ks M D) (hs : w.heap.size ≤ w'.heap.size) (hb : ∀ b, C0 ≤ b → b < w.heap.size → w'.heap[b]? = w.heap[b]?) : TwL C0 w' T n ks M D :=
 ⟨h.perm, h.nodup, h.rise, h.mem, h.lies.kept hs (fun b hx => hb b (h.lies.fresh b hx) (h.lies.lt b hx))⟩
theorem TwL.names {C0 : Nat} {w : World} {T : Tr} {n : PN} {ks : List (List UInt8)} {M : MV Nat} {D : List TE} (h : TwL C0 w T n ks M D) {x : TE} (hx : x ∈ D) : ∃ k ∈ ks, ∃ t, x.nm = n ++ (k :: t) := by
 have h1 := h.perm.mem_iff.1 (List.mem_map.2 ⟨x, hx, rfl⟩)
 obtain ⟨k, hk, h2⟩ := List.mem_flatMap.1 h1
 obtain ⟨y, hy, hyx⟩ := List.mem_map.1 h2
 obtain ⟨_, t, ht⟩ := subT_mem.1 hy
 have : (bare y).nm = (bare x).nm := by rw [hyx]
 exact ⟨k, hk, t, by rw [(show x.nm = y.nm from this.symm), ht, List.append_assoc]; rfl⟩
theorem TwL.step {C0 : Nat} {w w1 : World} {T : Tr} {n : PN} {ks : List (List UInt8)} {M : MV Nat} {D C : List TE} {k : List UInt8} {p : Nat} (h : TwL C0 w T n ks M D) (hC : TwF w.heap.size w1 T (n ++ [k]) p C) (hb : Below w.heap.size w w1)
 (h0 : C0 ≤ w.heap.size) (hk : k ∉ ks) (hs : SrtT T.L) : TwL C0 w1 T n (k :: ks) (putM M k p) (C ++ D) := by
 have cn : ∀ x ∈ C, ∃ t, x.nm = n ++ (k :: t) := fun x hx => by
  obtain ⟨t, ht⟩ := hC.names hx
  exact ⟨t, by rw [ht, List.append_assoc]; rfl⟩
 obtain ⟨c0, hc0, hcn, hcp⟩ := hC.root
 refine ⟨?_, List.nodup_cons.2 ⟨hk, h.nodup⟩, put_rise h.rise k p, fun k' => ?_, ?_⟩
 · rw [List.map_append, List.flatMap_cons]
   exact hC.perm.append h.perm
 · rw [mem_put]
   constructor
   · rintro (rfl | ⟨hm, _⟩)
     · exact ⟨c0, List.mem_append_left _ hc0, hcn, hcp⟩
     · obtain ⟨x, hx, h1, h2⟩ := (h.mem k').1 hm
       exact ⟨x, List.mem_append_right _ hx, h1, h2⟩
   · rintro ⟨x, hx, h1, h2⟩
     rcases List.mem_append.1 hx with hx | hx
     · obtain ⟨t, ht⟩ := cn x hx
       have h3 := List.append_cancel_left (h1.symm.trans ht)
       injection h3 with h3 h4
       have hxc : x = c0 := nodup_inj (hC.nodup hs) hx hc0 (by rw [h1, hcn, h3])
       left
       rw [hxc, hcp] at h2
       exact Prod.ext h3 h2.symm
     · obtain ⟨k2, hk2, t, ht⟩ := h.names hx
       have h3 := List.append_cancel_left (h1.symm.trans ht)
       injection h3 with h3 h4
       exact .inr ⟨(h.mem k').2 ⟨x, hx, h1, h2⟩, fun he => hk (by rw [← he, h3]; exact hk2)⟩
 · refine h.lies.append hC.lies hb h0 (fun c hc x hx s hn => ?_) (fun c hc x hx s hn => ?_)
   · obtain ⟨t, ht⟩ := cn c hc
     obtain ⟨k2, hk2, t2, ht2⟩ := h.names hx
     rw [ht2, ht, List.append_assoc] at hn
     have h3 := List.append_cancel_left hn
     injection h3 with h3 _
     exact hk (by rw [← h3]; exact hk2)
   · obtain ⟨t, ht⟩ := cn x hx
     obtain ⟨k2, hk2, t2, ht2⟩ := h.names hc
     rw [ht2, ht, List.append_assoc] at hn
     have h3 := List.append_cancel_left hn
     injection h3 with h3 _
     exact hk (by rw [h3]; exact hk2)
theorem nodup_le {α : Type} [DecidableEq α] : ∀ {l m : List α}, l.Nodup → (∀ x ∈ l, x ∈ m) → l.length ≤ m.length
 | [], _, _, _ => Nat.zero_le _
 | a :: r, m, hn, h => by
   have ha := h a (List.mem_cons_self ..)
   have h1 : r.length ≤ (m.erase a).length := nodup_le (List.nodup_cons.1 hn).2 (fun x hx => (List.mem_erase_of_ne (fun e => (List.nodup_cons.1 hn).1 (by rw [← e]; exact hx))).2 (h x (List.mem_cons_of_mem _ hx)))
   rw [List.length_erase_of_mem ha] at h1
   have := List.length_pos_of_mem ha
   rw [List.length_cons]; omega
theorem TwL.len {C0 : Nat} {w : World} {T : Tr} {n : PN} {ks : List (List UInt8)} {M : MV Nat} {D : List TE} (h : TwL C0 w T n ks M D) {N : MV Nat} (hk : ∀ k ∈ ks, k ∈ N.map (·.1)) : M.length ≤ N.length := by
 have h1 : (M.map (·.1)).Nodup := by
  rw [List.nodup_iff_pairwise_ne, List.pairwise_map]
  exact h.rise.imp (fun h => lt_ne h)
 have h2 := nodup_le h1 (m := N.map (·.1)) (fun x hx => by
  obtain ⟨k, hkm, rfl⟩ := List.mem_map.1 hx
  obtain ⟨y, hy, h3, _⟩ := (h.mem k).1 hkm
  obtain ⟨k2, hk2, t, ht⟩ := h.names hy
  have h4 := List.append_cancel_left (h3.symm.trans ht)
  injection h4 with h4 _
  rw [h4]; exact hk k2 hk2)
 rw [List.length_map, List.length_map] at h2
 exact h2
theorem bare_nm {a b : TE} (h : bare a = bare b) : a.nm = b.nm := show (bare a).nm = (bare b).nm by rw [h]
theorem bare_at {a b : TE} (h : bare a = bare b) : a.at_ = b.at_ := show (bare a).at_ = (bare b).at_ by rw [h]
theorem TwF.tree {B B2 C0 : Nat} {w w1 : World} {r r2 p : Nat} {T : Tr} {C : List TE} (hT : TreeAt B w r T) (h : TwF C0 w1 T [] p C) (hr : w1.heap[r2]? = some (.cells #[ptr p, .int .i64 (T.clock : Int), .int .u64 (T.most : Int), .int .i64 (T.reads : Int)] TrT))
 (hr2 : r2 ∉ ownL C ++ xobL C) (h0 : B2 ≤ C0) (h2 : B2 ≤ r2) : TreeAt B2 w1 r2 { T with L := sortT C } ∧ ({ T with L := sortT C } : Tr).bare = T.bare ∧ ∀ b ∈ ownL (sortT C) ++ xobL (sortT C), b ∈ ownL C ++ xobL C := by
 have hnm := h.nodup hT.srt
 have hss : SrtT (sortT C) := sortT_srt (by
  rw [List.nodup_iff_pairwise_ne, List.pairwise_map] at hnm; exact hnm)
 have hpm := sortT_perm C
 have hpo : (ownL (sortT C)).Perm (ownL C) := hpm.flatMap_right ownE
 have hpx : (xobL (sortT C)).Perm (xobL C) := hpm.flatMap_right _
 have hmem : ∀ x, x ∈ sortT C ↔ x ∈ C := fun x => hpm.mem_iff
 have hperm := h.perm
 rw [subT_root] at hperm
 have toT : ∀ c ∈ C, ∃ y ∈ T.L, bare y = bare c := fun c hc => List.mem_map.1 (hperm.mem_iff.1 (List.mem_map.2 ⟨c, hc, rfl⟩))
 have toC : ∀ y ∈ T.L, ∃ c ∈ C, bare c = bare y := fun y hy => List.mem_map.1 (hperm.mem_iff.2 (List.mem_map.2 ⟨y, hy, rfl⟩))
 obtain ⟨c0, hc0, hc0n, hc0p⟩ := h.root
 refine ⟨⟨⟨c0, ?_, by rw [hc0p]; exact hr⟩, fun c hc => ?_, ?_, ?_, ?_, hss, ?_, fun c hc => h.lies.kind c ((hmem c).1 hc)⟩, ?_, ?_⟩
 · rw [← hc0n]; exact getT_of hss ((hmem c0).2 hc0)
 · have hn := h.lies.node c ((hmem c).1 hc)
   refine ⟨hn.cells, fun b hb => ?_, hn.xs⟩
   obtain ⟨M, h1, h3, h4⟩ := hn.kids b hb
   have : kidsT (sortT C) c.nm = M := kids_is hss h1 (fun k => (h4 k).trans (by
    constructor
    · rintro ⟨x, hx, h⟩; exact ⟨x, (hmem x).2 hx, h⟩
    · rintro ⟨x, hx, h⟩; exact ⟨x, (hmem x).1 hx, h⟩))
   show w1.ownsMap _ _ _ _ _ (toD ptr (kidsT (sortT C) c.nm))
   rw [this]; exact h3
 · rw [List.nodup_cons]
   exact ⟨fun hc => hr2 (List.mem_append_left _ (hpo.mem_iff.1 hc)), hpo.nodup_iff.2 h.lies.nod⟩
 · intro b hb hc
   have hb := hpx.mem_iff.1 hb
   rcases List.mem_cons.1 hc with rfl | hc
   · exact hr2 (List.mem_append_right _ hb)
   · exact h.lies.xoff b hb (hpo.mem_iff.1 hc)
 · intro b hb
   rcases List.mem_cons.1 hb with rfl | hb
   · exact h2
   · refine Nat.le_trans h0 (h.lies.fresh b ?_)
     rcases List.mem_append.1 hb with hb | hb
     · exact List.mem_append_left _ (hpo.mem_iff.1 hb)
     · exact List.mem_append_right _ (hpx.mem_iff.1 hb)
 · intro c hc n s hn
   obtain ⟨y, hy, hyc⟩ := toT c ((hmem c).1 hc)
   obtain ⟨u, hu, h3, h4⟩ := hT.par y hy n s ((bare_nm hyc).trans hn)
   obtain ⟨u2, hu2, hb2⟩ := toC u hu
   refine ⟨u2, (hmem u2).2 hu2, (bare_nm hb2).trans h3, (h.lies.kind u2 hu2).1 ?_⟩
   rw [bare_at hb2]
   exact (hT.kind u hu).2 h4
 · show Tr.mk ((sortT C).map bare) _ _ _ = Tr.mk (T.L.map bare) _ _ _
   have : (sortT C).map bare = T.L.map bare := by
    refine srt_ext ?_ ?_ (fun x => ((hpm.map bare).trans hperm).mem_iff)
    · rw [SrtT, List.pairwise_map]; exact hss
    · rw [SrtT, List.pairwise_map]; exact hT.srt
   rw [this]
 · intro b hb
   rcases List.mem_append.1 hb with hb | hb
   · exact List.mem_append_left _ (hpo.mem_iff.1 hb)
   · exact List.mem_append_right _ (hpx.mem_iff.1 hb)
end Go.Proofs.YtnkapojbijbbaaaGreatDoor.Sr
namespace Go.Proofs.YtnkapojbijbbaaaGreatDoor.Sr
open Go.RowKit Go.Maps Go.WideMaps Rf Go.Proofs.YtnkapojbijbbaaaGreatDoor.Nm St
structure TwI (w : World) (T : Tr) (e : TE) (q mb it : Nat) (v4 : Value) (ws : World) (left : Lit → Bool) (ks : List (List UInt8)) (M : MV Nat) (D : List TE) : Prop where
 tl : TwL (it + 1) ws T e.nm ks M D
 map : ws.ownsMap Tryz.prog 9 Rv mb 1000000 (toD ptr M)
 cells : ws.heap[q]? = some (.cells (TE.cells { e with p := q, m := some mb, xv := v4 }).toArray NdT)
 xs : XsAt ws v4 e.at_.xs
 ks1 : ∀ k ∈ ks, (getM (kidsT T.L e.nm) k).isSome = true
 ks2 : ∀ k, (getM (kidsT T.L e.nm) k).isSome = true → left (.string k) = false → k ∈ ks
 ks3 : ∀ k ∈ ks, left (.string k) = false
 bel : Below w.heap.size w ws
 q0 : w.heap.size ≤ q
 q1 : q < mb
 q2 : mb < it
 q3 : it < ws.heap.size
 xb : ∀ b ∈ xob e.at_.xs v4, w.heap.size ≤ b ∧ b < it ∧ b ≠ q ∧ b ≠ mb
theorem TwI.round {w : World} {T : Tr} {e : TE} {q mb it : Nat} {v4 : Value} {ws w2 w3 w4 : World} {left : Lit → Bool} {ks : List (List UInt8)} {M : MV Nat} {D C : List TE} {k : List UInt8} {p : Nat} (h : TwI w T e q mb it v4 ws left ks M D)
 (hg : ws.grownBy w2 (some it)) (hz : w2.heap.size = ws.heap.size) (hC : TwF w2.heap.size w3 T (e.nm ++ [k]) p C) (hb : Below w2.heap.size w2 w3) (hlk : left (.string k) = true) (hkk : (getM (kidsT T.L e.nm) k).isSome = true) (hs : SrtT T.L)
 (ht : Turn [mb] w3 w4) (hm : w4.ownsMap Tryz.prog 9 Rv mb 1000000 (toD ptr (putM M k p))) :
 TwI w T e q mb it v4 w4 (fun z => left z && !z.sameKey (.string k)) (k :: ks) (putM M k p) (C ++ D) := by
 have q1 := h.q1; have q2 := h.q2; have q3 := h.q3; have q0 := h.q0
 have z3 := hb.size; have z4 := ht.size
 have s1 : ∀ b, b < ws.heap.size → b ≠ it → b ≠ mb → w4.heap[b]? = ws.heap[b]? := fun b h1 h2 h3 =>
  (ht.block b (by omega) (by simpa using h3)).trans ((hb.block b (by omega)).trans (hg.block b h1 (fun e => by injection e with e; omega)))
 refine ⟨?_, hm, (s1 q (by omega) (by omega) (by omega)).trans h.cells, h.xs.kept (by omega) (fun b hb' => ?_), ?_, ?_, ?_, ?_, q0, q1, q2, by omega, h.xb⟩
 · have t2 : TwL (it + 1) w2 T e.nm ks M D := h.tl.kept (by omega) (fun b h1 h2 => hg.block b h2 (fun e => by injection e with e; omega))
   have t3 := t2.step hC hb (by omega) (fun hk => by rw [h.ks3 k hk] at hlk; cases hlk) hs
   exact t3.kept ht.size (fun b h1 h2 => ht.block b h2 (by simp; omega))
 · obtain ⟨_, h2, _, h4⟩ := h.xb b hb'
   exact s1 b (by omega) (by omega) h4
 · intro k' hk'
   rcases List.mem_cons.1 hk' with rfl | hk'
   · exact hkk
   · exact h.ks1 k' hk'
 · intro k' hk' hl
   simp only [Bool.and_eq_false_iff, Bool.not_eq_false', sameKey_string, beq_iff_eq] at hl
   rcases hl with hl | rfl
   · exact List.mem_cons_of_mem _ (h.ks2 k' hk' hl)
   · exact List.mem_cons_self ..
 · intro k' hk'
   simp only [Bool.and_eq_false_iff, Bool.not_eq_false', sameKey_string, beq_iff_eq]
   rcases List.mem_cons.1 hk' with rfl | hk'
   · exact .inr rfl
   · exact .inl (h.ks3 k' hk')
 · have b2 : Below w.heap.size w w2 := h.bel.grown hg h.bel.size (fun y hy => by obtain rfl := Option.some.inj hy; omega)
   have b3 := b2.trans (hb.mono (by omega))
   exact b3.trans (ht.below (fun x hx => by obtain rfl := List.mem_singleton.1 hx; omega) (by omega))
end Go.Proofs.YtnkapojbijbbaaaGreatDoor.Sr
namespace Go.Proofs.YtnkapojbijbbaaaGreatDoor.Sr
open Go.RowKit Go.Maps Go.WideMaps Rf Go.Proofs.YtnkapojbijbbaaaGreatDoor.Nm St
theorem TwF.kept {C0 : Nat} {w w' : World} {T : Tr} {n : PN} {p : Nat} {C : List TE} (h : TwF C0 w T n p C) (hs : w.heap.size ≤ w'.heap.size) (hb : ∀ b, C0 ≤ b → w'.heap[b]? = w.heap[b]?) : TwF C0 w' T n p C :=
 ⟨h.perm, h.root, h.lies.kept hs (fun b hx => hb b (h.lies.fresh b hx))⟩
end Go.Proofs.YtnkapojbijbbaaaGreatDoor.Sr
namespace Go.Proofs.YtnkapojbijbbaaaGreatDoor.Sr
open Go.RowKit Go.Maps Go.WideMaps Rf Go.Proofs.YtnkapojbijbbaaaGreatDoor.Nm St
def NodeVar (w : World) (q : Nat) (e : TE) (xv : Value) : Prop := w.heap[q]? = some (.cells (vcells e xv).toArray VnT)
theorem NodeVar.below {w w' : World} {q : Nat} {e : TE} {xv : Value} (h : NodeVar w q e xv) (hb : Below w.heap.size w w') : NodeVar w' q e xv := (hb.block _ (lt_of_heap h)).trans h
theorem NodeVar.cells {w : World} {q : Nat} {e : TE} {xv : Value} (h : NodeVar w q e xv) : w.cell? ⟨q, 0, none⟩ = some (.string ⟨(pathN e.nm).toArray⟩) ∧ w.cell? ⟨q, 1, none⟩ = some (.int .u8 (e.at_.node : Int)) ∧ w.cell? ⟨q, 9, none⟩ = some (.int .u64 (e.ino : Int)) ∧ w.cell? ⟨q, 10, none⟩ = some (.int .i64 e.tick) :=
 ⟨cell_of_heap h, cell_of_heap h, cell_of_heap h, cell_of_heap h⟩
def OldK (L : List TE) (i m : Nat) (o : Int) : Prop := (o = -1 ∧ ∀ (j : Nat) x, j < m → L[j]? = some x → x.ino ≠ i) ∨ ∃ (j : Nat) (x : TE), o = (j : Int) ∧ L[j]? = some x ∧ x.ino = i
theorem OldK.start (L : List TE) (i : Nat) : OldK L i 0 (-1) := .inl ⟨rfl, fun _ _ h => by omega⟩
theorem OldK.skip {L : List TE} {i m : Nat} {o : Int} (h : OldK L i m o) {x : TE} (hx : L[m]? = some x) (hn : x.ino ≠ i) : OldK L i (m + 1) o := by
 rcases h with ⟨h1, h2⟩ | h
 · refine .inl ⟨h1, fun j y hj hy => ?_⟩
   by_cases hjm : j = m
   · subst hjm; rw [hx] at hy; obtain rfl := Option.some.inj hy; exact hn
   · exact h2 j y (by omega) hy
 · exact .inr h
end Go.Proofs.YtnkapojbijbbaaaGreatDoor.Sr
namespace Go.Proofs.YtnkapojbijbbaaaGreatDoor.Sr
open Go.RowKit Go.Maps Go.WideMaps Rf Go.Proofs.YtnkapojbijbbaaaGreatDoor.Nm St
theorem Stp.Fits.below {w w' : World} {x : Stp} (h : x.Fits w) (hb : Below w.heap.size w w') : x.Fits w' :=
 ⟨h.path, h.more, h.target, h.xs.kept hb.size (fun b hx => hb.block b (h.xs.lt b hx)), h.xl⟩
end Go.Proofs.YtnkapojbijbbaaaGreatDoor.Sr
namespace Go.Proofs.YtnkapojbijbbaaaGreatDoor.Sr
open Go.RowKit Go.Maps Go.WideMaps Rf Go.Proofs.YtnkapojbijbbaaaGreatDoor.Nm St
structure WhSt (B : Nat) (w : World) (r : Nat) (T : Tr) (k : Nat) : Prop where
 tree : TreeAt B w r T
 good : Good k T
 reads : T.reads ≤ k
 clk : T.clock ≤ k
section
variable {B C : Nat} {w w' : World} {r k : Nat} {T T' : Tr} {v0 : Value} {R0 : List (TE × Value)}
theorem WhSt.below (h : WhSt B w r T k) (hb : Below w.heap.size w w') : WhSt B w' r T k := ⟨h.tree.below hb, h.good, h.reads, h.clk⟩
theorem own_base {B' : Nat} (h : TreeAt B' w r T) : ∀ x ∈ r :: ownL T.L, B' ≤ x := fun x hx => h.base x (by
 rw [List.mem_cons] at hx ⊢
 exact hx.imp id (fun h => List.mem_append_left _ h))
structure MvSt (B C : Nat) (w : World) (r : Nat) (T : Tr) (v0 : Value) (R0 : List (TE × Value)) : Prop where
 tree : TreeAt B w r T
 out : OutAt C w v0 R0
 sep : ∀ x ∈ r :: (ownL T.L ++ xobL T.L), x ∉ ob v0 ++ R0.flatMap (fun p => ob p.2)
theorem MvSt.below (h : MvSt B C w r T v0 R0) (hb : Below w.heap.size w w') : MvSt B C w' r T v0 R0 := ⟨h.tree.below hb, h.out.below hb, h.sep⟩
end
end Go.Proofs.YtnkapojbijbbaaaGreatDoor.Sr
namespace Go.Proofs.YtnkapojbijbbaaaGreatDoor.Sr
open Go.RowKit Go.Maps Go.WideMaps Rf Go.Proofs.YtnkapojbijbbaaaGreatDoor.Nm St
abbrev blkT (r : Nat) (T : Tr) : List Nat := r :: (ownL T.L ++ xobL T.L)
structure Eff (B : Nat) (w : World) (r : Nat) (T : Tr) (w' : World) (T' : Tr) : Prop where
 tree : TreeAt B w' r T'
 turn : Turn (r :: ownL T.L) w w'
 own : ∀ b ∈ ownL T'.L ++ xobL T'.L, b ∈ ownL T.L ++ xobL T.L ∨ w.heap.size ≤ b
section
variable {B C : Nat} {w w' : World} {r r2 k : Nat} {T T' U : Tr} {v : Value} {R : List (TE × Value)}
theorem CallT.eff (h : CallT B w r T w' T') : Eff B w r T w' T' := ⟨h.tree, h.turn, h.own⟩
theorem Eff.same (h : TreeAt B w r T) (hb : Below w.heap.size w w') : Eff B w r T w' T := (CallT.same h hb).eff
theorem Eff.blk (h : Eff B w r T w' T') : ∀ b ∈ blkT r T', b ∈ blkT r T ∨ w.heap.size ≤ b := by
 intro b hb
 rcases List.mem_cons.1 hb with rfl | hb
 · exact .inl (List.mem_cons_self ..)
 · exact (h.own b hb).imp (List.mem_cons_of_mem _) id
theorem Eff.off (h : Eff B w r T w' T') {b : Nat} (hb : b < w.heap.size) (hx : b ∉ blkT r T) : w'.heap[b]? = w.heap[b]? :=
 h.turn.block b hb (fun hc => hx (by
  rcases List.mem_cons.1 hc with rfl | hc
  · exact List.mem_cons_self ..
  · exact List.mem_cons_of_mem _ (List.mem_append_left _ hc)))
theorem Eff.below (h : Eff B w r T w' T') (hT : TreeAt B w r T) (hB : B ≤ w.heap.size) : Below B w w' := h.turn.below (own_base hT) hB
structure Two (B : Nat) (w : World) (r : Nat) (T : Tr) (r2 : Nat) (U : Tr) : Prop where
 t : TreeAt B w r T
 u : TreeAt B w r2 U
 ap : ∀ x ∈ blkT r T, x ∉ blkT r2 U
theorem Two.symm (h : Two B w r T r2 U) : Two B w r2 U r T := ⟨h.u, h.t, fun x hx hy => h.ap x hy hx⟩
theorem Two.below (h : Two B w r T r2 U) (hb : Below w.heap.size w w') : Two B w' r T r2 U := ⟨h.t.below hb, h.u.below hb, h.ap⟩
theorem Two.eff (h : Two B w r T r2 U) (e : Eff B w r T w' T') : Two B w' r T' r2 U := by
 refine ⟨e.tree, h.u.kept e.turn.size (fun b hb => e.off (h.u.lt b hb) (fun hc => h.ap b hc hb)), fun x hx hy => ?_⟩
 rcases e.blk x hx with h1 | h1
 · exact h.ap x h1 hy
 · have := h.u.lt x hy; omega
def Sep (r : Nat) (T : Tr) (v : Value) (R : List (TE × Value)) : Prop := ∀ x ∈ blkT r T, x ∉ ob v ++ R.flatMap (fun p => ob p.2)
theorem Sep.eff (h : Sep r T v R) (ho : OutAt C w v R) (e : Eff B w r T w' T') : OutAt C w' v R ∧ Sep r T' v R := by
 refine ⟨ho.kept (fun b hb hl => e.off hl (fun hc => h b hc hb)), fun x hx hb => ?_⟩
 have hlt := (ho.lt x hb).2
 rcases e.blk x hx with h1 | h1
 · exact h x h1 hb
 · omega
end
end Go.Proofs.YtnkapojbijbbaaaGreatDoor.Sr
