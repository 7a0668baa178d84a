/-
  The contract of a book's Twin: another book that answers alike.
-/
import Derived.Test.YtjfmboiokplngaaRfEnc
import Derived.Maps.RangeWalk
namespace Go.Proofs.Ytjfmboiokplngaa.Rf
open Go.RowKit Go.Maps Go.WideMaps
variable {X : Spect}

/-- How far the twin has come: the keys that are left are none of its own; the others answer alike. -/
structure TwinSo (K T : BK) (left : Lit → Bool) : Prop where
  mem : ∀ p ∈ T, p ∈ K
  done : ∀ k, left (.string k) = false → getM T k = getM K k
  todo : ∀ k, left (.string k) = true → getM T k = none
theorem TwinSo.step {K T : BK} {left : Lit → Bool} (h : TwinSo K T left) {k : List UInt8} {l : List En} (hk : getM K k = some l) : TwinSo K (putM T k l) (fun z => left z && !z.sameKey (.string k)) := by
  refine ⟨fun p hp => ?_, fun j hj => ?_, fun j hj => ?_⟩
  · rcases mem_ins.1 hp with rfl | h2
    · exact getM_mem hk
    · exact h.mem p (mem_del.1 h2).1
  · by_cases e : k = j
    · subst e; rw [get_put_same, hk]
    · rw [get_put_other _ _ e]
      refine h.done j ?_
      simp [sameKey_string, Ne.symm e] at hj
      exact hj
  · simp [sameKey_string] at hj
    rw [get_put_other _ _ (fun e => hj.2 e.symm)]
    exact h.todo j hj.1

/-- What Twin leaves. -/
def TwinPost (w : World) (Z : BM) (e : Ending) (w' : World) : Prop :=
  ∃ g b T, e = .returned (ptr g) ∧ BookAt none w.heap.size w' g b T ∧ Below w.heap.size w w' ∧ OkB (plainB T) ∧ ∀ k, getM (plainB T) k = getM (plainB Z) k

theorem nodup_sub {α : Type} : ∀ {l m : List α}, l.Nodup → (∀ x ∈ l, x ∈ m) → l.length ≤ m.length
  | [], m, _, _ => by simp
  | a :: r, m, hn, hs => by
    classical
    obtain ⟨m1, m2, rfl⟩ := List.append_of_mem (hs a (by simp))
    rw [List.nodup_cons] at hn
    have := nodup_sub (l := r) (m := m1 ++ m2) hn.2 (fun x hx => by
      have h := hs x (by simp [hx])
      have hne : x ≠ a := fun e => hn.1 (e ▸ hx)
      simp only [List.mem_append, List.mem_cons] at h ⊢
      rcases h with h | h | h
      · exact .inl h
      · exact absurd h hne
      · exact .inr h)
    simp at this ⊢
    omega
/-- A map in memory names each key once. -/
theorem keys_nodup {w : World} {b n : Nat} {α : Type} {enc : α → Value} {m : MV α} (h : w.ownsMap Try.prog 9 Rv b n (toD enc m)) : (m.map (·.1)).Nodup := by
  obtain ⟨es, he, hp⟩ := h.tidy law
  rw [toD] at he
  injection he with he
  rw [← he, List.pairwise_map] at hp
  rw [List.Nodup, List.pairwise_map]
  exact hp.imp (fun h e => h (by rw [e]))
theorem TwinSo.ok {K T : BK} {left : Lit → Bool} (h : TwinSo K T left) (ok : OkB K) (hn : (T.map (·.1)).Nodup) : OkB T := by
  refine ⟨?_, fun p hp => ok.keys p (h.mem p hp), fun p hp => ok.ne p (h.mem p hp), fun p hp => ok.len p (h.mem p hp), fun p hp => ok.ent p (h.mem p hp)⟩
  have := nodup_sub (m := K.map (·.1)) hn (fun x hx => by
    obtain ⟨p, hp, rfl⟩ := List.mem_map.1 hx
    exact List.mem_map.2 ⟨p, h.mem p hp, rfl⟩)
  simp at this
  have := ok.size
  omega

theorem ranges_block {w w' : World} {b r n cnt : Nat} {D : DataW Value} {left : Lit → Bool} (h : w.ranges Try.prog 9 Rv b r n D left cnt) (hb : w'.heap[b]? = w.heap[b]?) (hr : w'.heap[r]? = w.heap[r]?) : w'.ranges Try.prog 9 Rv b r n D left cnt := by
  obtain ⟨es, clock, since, seen, c0, h1, h2, h3, h4, h5, h6⟩ := h
  exact ⟨es, clock, since, seen, c0, hb.trans h1, h2, h3, h4, hr.trans h5, h6⟩
theorem string_inv' (key : Value) (kl : Lit) (h : keyOf Try.prog 9 key = some kl) : ∃ x, key = Value.string x := by
  obtain ⟨s, rfl, _⟩ := string_of_keyOf Try.underlying9 h
  exact ⟨s, rfl⟩
theorem rv_inv (v : Value) (y : DataW Value × List MemPlace) (_h : Rv v = some y) : ∃ c, v = id c := ⟨v, rfl⟩
/-- The iterator has turned, and nothing of the book. -/
theorem BookAt.iter {B : Nat} {w w' : World} {g b r n cnt bz : Nat} {D : DataW Value} {left : Lit → Bool} {T : BM} (h : BookAt none B w g b T) (hr : w.ranges Try.prog 9 Rv bz r n D left cnt) (hg : w.grownBy w' (some r)) (hgr : g ≠ r) (hbr : b ≠ r) : BookAt none B w' g b T := by
  obtain ⟨es, clock, since, seen, c0, h1, h2, h3, h4, h5, h6⟩ := hr
  have hk : ∀ x, x < w.heap.size → x ≠ r → w'.heap[x]? = w.heap[x]? := fun x hx hne => hg.block x hx (by simpa using hne)
  refine ⟨(hk g h.lt_g hgr).trans h.book, ownsMap_block h.map (hk b h.lt_b hbr), fun p hp => rowS_kept (h.each p hp) (fun x hx hl => hk x hl ?_), h.gb, h.off, h.apart, h.baseg, h.baseb, fun _ hp => nomatch hp⟩
  obtain ⟨_, ⟨e, _⟩ | ⟨g', cap, cur, e, _, hh, _⟩⟩ := h.each p hp
  · rw [e] at hx; simp [ob, Value.ownBlock] at hx
  · rw [e] at hx
    simp [ob, Value.ownBlock] at hx
    intro ex
    rw [hx] at ex
    rw [ex, h5] at hh
    cases hh

set_option maxHeartbeats 4000000 in
set_option maxRecDepth 100000 in
theorem twin_any (B : Nat) (w : World) (g b : Nat) (Z : BM) (h : BookAt X B w g b Z) (ok : OkB (plainB Z)) :
    Calls Try.prog 20 #[ptr g] w (TwinPost w Z) := by
  have mixed : Try.prog.follows Departure.mixedOrders = true := by kernel_rfl
  have NW := Lib.hid (new_any w)
  have H := Lib.hid h; have HOK := Lib.hid ok
  clear h ok
  unfold ptr at *
  go_enter Try.func20, Try.ntmps20
  go_wp2_with fail
  refine NW.out.mono ?_
  rintro e w1 ⟨gt, bt, rfl, ht1, hb1⟩
  have h1 := H.out.below hb1
  have c1 : w1.cell? ⟨g, 0, none⟩ = some (.map (some b)) := cell_of_heap h1.book
  have HB1 := Lib.hid hb1; have HT1 := Lib.hid ht1; have H1 := Lib.hid h1.map
  clear h1 hb1 ht1 NW
  go_wp2_with (first
    | (at_range; refine wpList_range_own _ rfl _ 41 rfl 9 48 law Try.underlying41 Rv b 1000000 (toD Prod.fst Z) rfl H1.out ?_; intro w0 hrg0 hg0 hs0)
    | go_in)
  go_frame
  have hgt : gt < w1.heap.size := HT1.out.lt_g
  have hbt : bt < w1.heap.size := HT1.out.lt_b
  have hb0 : Below w.heap.size w w0 := HB1.out.grown hg0 HB1.out.size (by simp)
  have ht0 : BookAt none w.heap.size w0 gt bt [] := HT1.out.kept (fun x hx => hg0.block x hx (by simp))
  have HRG0 := Lib.hid hrg0; have HB0 := Lib.hid hb0; have HT0 := Lib.hid ht0
  have hw1 := HB1.out.size
  have HGB : Hid (w.heap.size ≤ gt ∧ w.heap.size ≤ bt) := Lib.hid ⟨HT1.out.baseg, HT1.out.baseb⟩
  have hbl : b < w.heap.size := H.out.lt_b
  clear hrg0 hg0 hs0 c1 hb0 ht0
  go_loopw [4] (fun _ wr => ∃ (left : Lit → Bool) (cnt : Nat) (T : BM), Hid (wr.ranges Try.prog 9 Rv b w1.heap.size 1000000 (toD Prod.fst Z) left cnt) ∧ Hid (BookAt none w.heap.size wr gt bt T) ∧ Hid (TwinSo (plainB Z) (plainB T) left) ∧ Hid (Below w.heap.size w wr)) (fun _ wr => wr.rangeLeft b w1.heap.size)
  case atStart =>
    refine ⟨_, _, [], HRG0, HT0, Lib.hid ⟨fun p hp => by simp [plainB, mapM'] at hp, fun k hk => ?_, fun k _ => rfl⟩, HB0⟩
    rw [toD_has] at hk
    have : getM Z k = none := by simpa using hk
    have e : getM (plainB Z) k = none := by rw [plain_get, this]; rfl
    rw [e]; rfl
  case round =>
    obtain ⟨left, cnt, T, HR, HT, HS, HB⟩ := hrel
    go_wp2_with (first
      | (at_next; refine wpList_next_ranges (α := ByteArray) (β := Value) _ rfl _ rfl 9 law Rv Value.string id string_inv' rv_inv b w1.heap.size 1000000 _ _ _ (by first | rfl | simp [Act.eval, World.setCell]) HR.out ?_ ?_)
      | go_in)
    · intro _ hl0
      have hs := Lib.hid (fun k => HS.out.done k (hl0 _))
      clear hl0
      go_wp2
      go_ret
      exact ⟨gt, bt, T, rfl, HT.out, HB.out, HS.out.ok HOK.out (by simpa [plainB, mapM', List.map_map, Function.comp_def] using keys_nodup HT.out.map), hs.out⟩
    · intro x c kl yd yp w2 cnt1 hkey hlx hv hat hrg1 hlt hg1 hs1 hen
      obtain ⟨x', ex, ekl, hxl⟩ := string_of_keyOf Try.underlying9 hkey
      injection ex with ex
      subst ex
      subst ekl
      have hv2 : yd = .held c := by
        have := congrArg Prod.fst (Option.some.inj hv)
        exact this.symm
      subst hv2
      have hhas := has_true_of_atKey hat
      rw [toD_has] at hhas
      obtain ⟨p, hp⟩ := Option.isSome_iff_exists.1 hhas
      have hcn := hat (.held .nilIface)
      rw [toD_at, hp] at hcn
      injection hcn with hcn
      have hcn' : p.1 = c := hcn
      subst hcn'
      obtain ⟨pv, pl⟩ := p
      obtain ⟨a1, a2, a3, a4⟩ := HOK.out.row hp
      have hb2 : Below w.heap.size w w2 := HB.out.grown hg1 HB.out.size (fun y hy => by obtain rfl := Option.some.inj hy; exact hw1)
      have h2 := H.out.below hb2
      have hT2 : BookAt none w.heap.size w2 gt bt T := HT.out.iter HR.out hg1 (by omega) (by omega)
      have hok2 := HS.out.ok HOK.out (by simpa [plainB, mapM', List.map_map, Function.comp_def] using keys_nodup HT.out.map)
      have HTN : Hid (T.length ≤ 64) := Lib.hid (by rw [← plain_length]; exact hok2.size)
      have c2 : w2.cell? ⟨gt, 0, none⟩ = some (.map (some bt)) := cell_of_heap hT2.book
      have hst := HS.out.step (k := x.data.toList) (l := pl) (by rw [plain_get, hp]; rfl)
      rw [← plain_put T x.data.toList .nilIface pl] at hst
      have CL := Lib.hid (clone_any B w2.drew pv pl (rowS_kept (w' := w2.drew) (h2.row hp) (fun y _ _ => rfl)) (by have : pl.length ≤ 4096 := a3; omega) a2)
      have HST := Lib.hid hst; have HT2 := Lib.hid hT2; have HB2 := Lib.hid hb2; have HRG := Lib.hid hrg1; have HLT := Lib.hid hlt
      have hbw : w.heap.size ≤ w2.heap.size := hb2.size
      have hrw : w1.heap.size < w2.heap.size := by
        obtain ⟨_, _, _, _, _, _, _, _, _, h5, _⟩ := hrg1
        exact lt_of_heap h5
      clear hv hat hhas hcn hp a1 a2 a3 a4 hb2 h2 hT2 hok2 hst hrg1 hlt hkey hlx hg1
      dsimp only at hen CL ⊢
      go_wp2
      go_region_held3 (fun w' => w'.cell? ⟨gt, 0, none⟩ = some (.map (some bt)))
        (first
          | exact c4
          | exact c3
          | exact c2)
        (first
          | (go_at_call 18
             refine CL.out.mono ?_
             rintro e w3 ⟨v', rfl, ho3, hb3⟩
             have h3 : BookAt none w.heap.size w3 gt bt T := (HT2.out.kept (w' := w2.drew) (fun _ _ => rfl)).below hb3
             have c3 : w3.cell? ⟨gt, 0, none⟩ = some (.map (some bt)) := cell_of_heap h3.book
             obtain ⟨w4, hrun4, hown4, hturn4⟩ := h3.map.store law Try.underlying41 (by decide) (val := v') (keyK x hxl) rfl
             have c4 : w4.cell? ⟨gt, 0, none⟩ = some (.map (some bt)) := (World.cell?_of_block (a := ⟨gt, 0, none⟩) (hturn4.grown.block gt h3.lt_g (by simpa using h3.gb))).trans c3))
      have HO3 := Lib.hid ho3; have HB3 := Lib.hid hb3; have HO4 := Lib.hid hown4; have HT4 := Lib.hid hturn4
      clear ho3 hb3 hown4 hturn4 h3 c3 c4 hrun4
      have t4 := HT4.out.grown
      have hs3 : w2.heap.size ≤ w3.heap.size := HB3.out.size
      have hr4 : w4.ranges Try.prog 9 Rv b w1.heap.size 1000000 (toD Prod.fst Z) (fun z => left z && !z.sameKey (.string x.data.toList)) cnt1 :=
        ranges_block HRG.out ((t4.block b (by omega) (by have := HGB.out; simp; omega)).trans (HB3.out.block b (by show b < w2.heap.size; omega)))
          ((t4.block _ (by omega) (by simp; omega)).trans (HB3.out.block w1.heap.size hrw))
      have HR4 := Lib.hid hr4
      clear hr4 t4
      go_wp2
      go_roundw
      case rel =>
        obtain ⟨P1, P2⟩ := clone_end (w2 := w2.drew) (k := x.data.toList) (l := pl) (HT2.out.kept (w' := w2.drew) (fun _ _ => rfl)) HB3.out HO3.out HO4.out HTN.out HT4.out
        refine ⟨_, cnt1, putM T x.data.toList (v', pl), HR4, Lib.hid P1, Lib.hid ?_, Lib.hid (HB2.out.drew.trans P2)⟩
        have := HST.out
        rwa [plain_put] at this ⊢
      case measure =>
        rw [HR4.out.left_eq, HR.out.left_eq]; exact HLT.out
end Go.Proofs.Ytjfmboiokplngaa.Rf
