import Derived.Test.YtkdkifciajfpnaaDoorZPSrDrop
import Derived.Test.YtkdkifciajfpnaaDoorZPSrIns
import Derived.Maps.RangeWalk
set_option linter.unusedSimpArgs false
set_option linter.unusedVariables false
/-
  The contracts of Read, Reads, Now and Folder.
-/
namespace Go.Proofs.YtkdkifciajfpnaaDoor.Sr
open Go.RowKit Go.Maps Go.WideMaps Go.Proofs.YtkdkifciajfpnaaDoor.Rf Go.Proofs.YtkdkifciajfpnaaDoor.Nm Go.Proofs.YtkdkifciajfpnaaDoor.St

def readE (p : List UInt8) (L : List TE) : Int :=
  if splitE p ≠ 0 then 10 else match getT (splitL p) L with
    | none => 6
    | some n => if n.at_.node ≠ 1 then 11 else 0
def readD (p : List UInt8) (L : List TE) : List UInt8 :=
  if readE p L = 0 then match getT (splitL p) L with | none => [] | some n => n.data else []
/-- What Read answers, and leaves. -/
def ReadPost (B : Nat) (w : World) (r : Nat) (T : Tr) (p : List UInt8) (e : Ending) (w' : World) : Prop :=
  e = .returned (.tuple #[.string ⟨(readD p T.L).toArray⟩, .int .i64 (readE p T.L)]) ∧ TreeAt B w' r (if readE p T.L = 0 then { T with reads := T.reads + 1 } else T) ∧ Turn [r] w w'
set_option linter.unusedSimpArgs false in
set_option maxHeartbeats 8000000 in
set_option maxRecDepth 100000 in
theorem read_any (B : Nat) (w : World) (r : Nat) (T : Tr) (p : List UInt8) (hp : p.length ≤ 4611686018427387904) (hrd : T.reads < 4611686018427387904) (h : TreeAt B w r T) :
    Calls Tryd.prog 23 #[ptr r, .string ⟨p.toArray⟩] w (ReadPost B w r T p) := by
  have FI := Lib.hid (find_any B w r T p hp h)
  have H := Lib.hid h
  clear h
  unfold ptr at *
  go_enter Tryd.func23, Tryd.ntmps23
  go_wp2_with fail
  refine FI.out.mono ?_
  rintro ex w1 ⟨v, rfl, hp1, hb1⟩
  have HB := Lib.hid hb1
  obtain ⟨va, vc, rfl⟩ := rowS_slice hp1.row
  clear FI hp1 hb1
  rw [findE, findN]
  rcases splitE_cases p with h0 | ⟨h0, _⟩
  case inr =>
    have hc : readE p T.L = 10 := by rw [readE, if_pos (by rw [h0]; decide)]
    have hd : readD p T.L = [] := by rw [readD, if_neg (by rw [hc]; decide)]
    rw [if_neg (by rw [h0]; decide), if_neg (by rw [h0]; decide)]
    have HC := Lib.hid hc; have HD := Lib.hid hd
    unfold ptrO
    clear h0 hc hd
    go_wp2
    go_ret2
    refine ⟨by rw [HC.out, HD.out]; rfl, ?_, Turn.of_below HB.out⟩
    rw [if_neg (by rw [HC.out]; decide)]; exact H.out.below HB.out
  rw [if_pos h0, if_pos h0]
  have HE1 : Hid (readE p T.L = match getT (splitL p) T.L with
    | none => 6
    | some n => if n.at_.node ≠ 1 then 11 else 0) := Lib.hid (by rw [readE, if_neg (by rw [h0]; decide)])
  clear h0
  cases hg : getT (splitL p) T.L with
  | none =>
    have hc : readE p T.L = 6 := by rw [HE1.out, hg]
    have hd : readD p T.L = [] := by rw [readD, if_neg (by rw [hc]; decide)]
    have HC := Lib.hid hc; have HD := Lib.hid hd
    unfold ptrO
    clear hg hc hd HE1
    go_wp2
    go_ret2
    refine ⟨by rw [HC.out, HD.out]; rfl, ?_, Turn.of_below HB.out⟩
    rw [if_neg (by rw [HC.out]; decide)]; exact H.out.below HB.out
  | some n =>
    obtain ⟨hn, _⟩ := getT_nm hg
    have H1 := Lib.hid (H.out.below HB.out)
    have c2 : w1.cell? ⟨n.p, 2, none⟩ = some (.int .u8 (n.at_.node : Int)) := cell_of_heap (H1.out.node n hn).cells
    unfold ptrO
    by_cases h1 : n.at_.node = 1
    case neg =>
      have hc : readE p T.L = 11 := by rw [HE1.out, hg]; exact if_pos h1
      have hd : readD p T.L = [] := by rw [readD, if_neg (by rw [hc]; decide)]
      have HC := Lib.hid hc; have HD := Lib.hid hd
      have hb : (((n.at_.node : Nat) : Int) == 1) = false := by rw [beq_eq_false_iff_ne]; omega
      have hb2 : (((n.at_.node : Nat) : Int) != 1) = true := by rw [bne, hb]; rfl
      clear HE1 hg hc hd hn h1
      go_wp2
      go_ret2
      refine ⟨by rw [HC.out, HD.out]; rfl, ?_, Turn.of_below HB.out⟩
      rw [if_neg (by rw [HC.out]; decide)]; exact H1.out
    have hc : readE p T.L = 0 := by rw [HE1.out, hg]; exact if_neg (by simpa using h1)
    have hd : readD p T.L = n.data := by rw [readD, if_pos hc, hg]
    have HC := Lib.hid hc; have HD := Lib.hid hd
    obtain ⟨e0, he0, hr0⟩ := H1.out.root
    rw [h1] at c2
    have c3 : w1.cell? ⟨r, 3, none⟩ = some (.int .i64 (T.reads : Int)) := cell_of_heap hr0
    have f3 : w1.frozen? ⟨r, 3, none⟩ = false := frozen_of_heap hr0
    have hwr : IntKind.i64.wrap ((T.reads : Int) + 1) = (T.reads : Int) + 1 := by rw [IntKind.wrap_i64]; omega
    have HTR : Hid (TreeAt B (w1.setCell ⟨r, 3, none⟩ (.int .i64 ((T.reads : Int) + 1))) r { T with reads := T.reads + 1 }) := Lib.hid (by
      refine H1.out.head he0 (c := T.clock) (m := T.most) (n := T.reads + 1) ?_ (fun b hb => Below.heap_setCell _ _ _ _ ?_) (by rw [World.size_setCell]; exact Nat.le_refl _)
      · rw [setCell_heap _ _ _ _ _ _ hr0]; rfl
      · rintro rfl
        rcases List.mem_append.1 hb with hb | hb
        · exact H1.out.r_own hb
        · exact H1.out.xoff _ hb (by simp))
    have hcd : (w1.setCell ⟨r, 3, none⟩ (.int .i64 ((T.reads : Int) + 1))).cell? ⟨n.p, 9, none⟩ = some (.string ⟨n.data.toArray⟩) := cell_of_heap (HTR.out.node n hn).cells
    have hne : n.p ≠ r := by rintro hnr; exact H1.out.r_own (hnr ▸ ownL_mem hn)
    have HTU : Hid (Turn [r] w (w1.setCell ⟨r, 3, none⟩ (.int .i64 ((T.reads : Int) + 1)))) := Lib.hid ((Turn.of_below HB.out : Turn [r] w w1).setCell (.inl (by simp)) _)
    clear HE1 hg hc hd hn h1 hr0 he0
    go_wp2
    go_ret2
    refine ⟨by rw [HC.out, HD.out]; rfl, ?_, HTU.out⟩
    rw [if_pos HC.out]; exact HTR.out

set_option linter.unusedSimpArgs false in
set_option maxHeartbeats 4000000 in
set_option maxRecDepth 100000 in
theorem now_any (B : Nat) (w : World) (r : Nat) (T : Tr) (h : TreeAt B w r T) :
    Calls Tryd.prog 10 #[ptr r] w fun e w' => e = .returned (.int .i64 (T.clock : Int)) ∧ w' = w := by
  obtain ⟨e0, he0, hq0⟩ := h.root
  have c1 : w.cell? ⟨r, 1, none⟩ = some (.int .i64 (T.clock : Int)) := cell_of_heap hq0
  unfold ptr at *
  clear he0 hq0 h
  go_enter Tryd.func10, Tryd.ntmps10
  go_wp2
  go_ret
  exact ⟨rfl, rfl⟩
set_option linter.unusedSimpArgs false in
set_option maxHeartbeats 4000000 in
set_option maxRecDepth 100000 in
theorem reads_any (B : Nat) (w : World) (r : Nat) (T : Tr) (h : TreeAt B w r T) :
    Calls Tryd.prog 11 #[ptr r] w fun e w' => e = .returned (.int .i64 (T.reads : Int)) ∧ w' = w := by
  obtain ⟨e0, he0, hq0⟩ := h.root
  have c1 : w.cell? ⟨r, 3, none⟩ = some (.int .i64 (T.reads : Int)) := cell_of_heap hq0
  unfold ptr at *
  clear he0 hq0 h
  go_enter Tryd.func11, Tryd.ntmps11
  go_wp2
  go_ret
  exact ⟨rfl, rfl⟩
/-- As a folder's. -/
def asFold (A : XA) : XA := { A with node := 2, target := [] }
/-- What add made of the tree, told as a call's. -/
theorem AddPost.call {B : Nat} {w w0 w' : World} {r : Nat} {T : Tr} {p d : List UInt8} {A : XA} {e : Ending} (h : AddPost B w r T p d A e w') (hT : TreeAt B w0 r T) (hb : Below w0.heap.size w0 w) (hd : d.length ≤ 1048576 ∨ addE p d A T ≠ 0) (hkk : (splitL p).length ≤ 16) :
    e = .returned (.int .i64 (addE p d A T)) ∧ ∃ T', CallT B w0 r T w' T' ∧ (addE p d A T ≠ 0 → T' = T) ∧ (addE p d A T = 0 → ∃ n u, u ∈ T.L ∧ u.nm = (splitL p).dropLast ∧ n.nm = splitL p ∧ n.ino = T.most + 1 ∧ n.at_ = A ∧ n.data = d ∧ n.tick = 0 ∧ T' = { T with clock := T.clock + 1, most := T.most + 1, L := tickT [n.p, u.p] ((T.clock + 1 : Nat) : Int) (insT n T.L) }) := by
  obtain ⟨he, hno, hyes⟩ := h
  refine ⟨he, ?_⟩
  by_cases h0 : addE p d A T = 0
  · obtain ⟨n, u, hu, hun, hn, hi, ha, hdd, ht, htree, hturn, hnew⟩ := hyes h0
    refine ⟨_, ⟨htree, (Turn.of_below hb).trans hturn (fun y hy => .inl hy), fun b hb' => ?_, ?_⟩, fun h1 => absurd h0 h1, fun _ => ⟨n, u, hu, hun, hn, hi, ha, hdd, ht, rfl⟩⟩
    · have hnew' : ∀ b ∈ ownE n ++ xob n.at_.xs n.xv, w0.heap.size ≤ b := fun b hb2 => Nat.le_trans hb.size (hnew b hb2)
      rw [List.mem_append] at hb' ⊢
      rcases hb' with hb' | hb'
      · have hb' : b ∈ ownL (tickT [n.p, u.p] _ (insT n T.L)) := hb'
        rw [own_tickT, (own_ins n T.L).mem_iff, List.mem_append] at hb'
        rcases hb' with hb' | hb'
        · exact .inr (hnew' b (by simp [hb']))
        · exact .inl (.inl hb')
      · obtain ⟨x', hx', hb'⟩ := List.mem_flatMap.1 hb'
        have : ∃ x ∈ insT n T.L, b ∈ xob x.at_.xs x.xv := by
          obtain ⟨x, hx, rfl | rfl⟩ := tickT_mem hx'
          · exact ⟨_, hx, hb'⟩
          · exact ⟨x, hx, hb'⟩
        obtain ⟨x, hx, hb2⟩ := this
        rcases mem_insT.1 hx with rfl | hx
        · exact .inr (hnew' b (by simp [hb2]))
        · exact .inl (.inr (List.mem_flatMap.2 ⟨x, hx, hb2⟩))
    · have hE := h0
      rw [addE] at hE
      split at hE
      · cases hE
      · next hs =>
        split at hE
        · cases hE
        · next hck =>
          split at hE
          · cases hE
          · next hgn =>
            split at hE
            · next h5 => exact absurd hE h5
            · split at hE
              · cases hE
              · next h6 =>
                have hgn' : getT (splitL p) T.L = none := by
                  cases hq : getT (splitL p) T.L with
                  | none => rfl
                  | some x => rw [hq] at hgn; exact absurd rfl hgn
                refine .add n u hu ⟨by rw [hn]; exact hT.root_path hgn', by rw [hn]; exact hun⟩ (by rw [hn]; exact hgn') hi ht (by omega) ?_ ?_ ⟨by rw [hn]; exact hkk, fun s hs => splitL_chk (by rw [hn] at hs; exact hs)⟩
                · rw [hdd]; rcases hd with hd | hd
                  · exact hd
                  · exact absurd h0 hd
                · rw [ha]; by_cases hA : chkA A = true
                  · exact hA
                  · exact absurd (.inl (by simpa using hA)) hck
  · obtain ⟨h1, h2⟩ := hno h0
    exact ⟨T, ⟨h1, Turn.of_below (hb.trans (h2.mono hb.size)), fun _ h => .inl h, .same T⟩, fun _ => rfl, fun h => absurd h h0⟩
end Go.Proofs.YtkdkifciajfpnaaDoor.Sr
/-
  The contract of deep: how many names the longest path beneath a node has.
-/
namespace Go.Proofs.YtkdkifciajfpnaaDoor.Sr
open Go.RowKit Go.Maps Go.WideMaps Go.Proofs.YtkdkifciajfpnaaDoor.Rf Go.Proofs.YtkdkifciajfpnaaDoor.Nm Go.Proofs.YtkdkifciajfpnaaDoor.St

def DeepOk (B r : Nat) (T : Tr) (e : TE) : Prop := ∀ (w : World), TreeAt B w r T →
  Calls Tryd.prog 33 #[ptr e.p] w fun x w' => x = .returned (.int .i64 (deepN T.L e.nm : Int)) ∧ Below w.heap.size w w'
theorem str_inv (key : Value) (kl : Lit) (h : keyOf Tryd.prog 9 key = some kl) : ∃ x, key = Value.string x := by
  obtain ⟨s, rfl, _⟩ := string_of_keyOf Tryd.underlying9 h
  exact ⟨s, rfl⟩
theorem held_inv (v : Value) (y : DataW Value × List MemPlace) (_h : Rv v = some y) : ∃ c, v = id c := ⟨v, rfl⟩
set_option linter.unusedSimpArgs false in
set_option maxHeartbeats 8000000 in
set_option maxRecDepth 100000 in
theorem deep_step (B r : Nat) (T : Tr) (hM : ∀ e ∈ T.L, e.nm.length ≤ 1000) (e : TE) (he : e ∈ T.L) (ih : ∀ x ∈ T.L, ∀ s, x.nm = e.nm ++ [s] → DeepOk B r T x) : DeepOk B r T e := by
  intro w h
  have mixed : Tryd.prog.follows Departure.mixedOrders = true := by kernel_rfl
  have H := Lib.hid h; have HE := Lib.hid he; have IH := Lib.hid ih; have HM := Lib.hid hM
  have c10 : w.cell? ⟨e.p, 10, none⟩ = some (mapV e.m) := cell_of_heap (h.node e he).cells
  have HDB : Hid (deepN T.L e.nm ≤ 1000) := Lib.hid (deepN_bound hM)
  clear ih hM
  unfold ptr at *
  cases hm : e.m with
  | none =>
    have hd : deepN T.L e.nm = 0 := Nat.le_zero.1 (deep_of h.parT (fun s ⟨x, hx, hxn⟩ => by
      obtain ⟨u, hu, h1, h2⟩ := h.par x hx _ _ hxn
      rw [srtT_inj h.srt hu he h1] at h2
      exact absurd hm h2))
    rw [hm] at c10
    have HD := Lib.hid hd
    unfold mapV at c10
    clear h he hd
    go_enter Tryd.func33, Tryd.ntmps33
    have hrn := run_range_nilMap (P := Tryd.prog) w 55 _ _ Tryd.underlying55
    have hnx := fun ty => run_next_nilMap (P := Tryd.prog) w ty 0 0 #[]
    go_wp2
    go_loopw [3] (fun v3 wr => v3 = .int .i64 0 ∧ wr = w.alloc (.mapIter none 0 #[] 0)) (fun _ _ => 0)
    case atStart => exact ⟨rfl, rfl⟩
    case round =>
      obtain ⟨rfl, rfl⟩ := hrel
      go_wp2
      go_ret
      rw [HD.out]
      exact ⟨rfl, (Below.refl _ _).alloc (Nat.le_refl _) _⟩
  | some b =>
    have HMP := Lib.hid ((h.node e he).kids b hm)
    rw [hm] at c10
    unfold mapV at c10
    have HBW : Hid (b < w.heap.size) := Lib.hid ((h.node e he).kids b hm).lt
    clear h he
    go_enter Tryd.func33, Tryd.ntmps33
    go_wp2_with (first
      | (at_range; refine wpList_range_own _ rfl _ 55 rfl 9 52 law Tryd.underlying55 Rv b 1000000 (toD ptr (kidsT T.L e.nm)) rfl HMP.out ?_; intro w0 hrg0 hg0 hs0)
      | go_in)
    go_frame
    have HB0 : Hid (Below w.heap.size w w0) := Lib.hid ((Below.refl _ w).grown hg0 (Nat.le_refl _) (by simp))
    have HRG0 := Lib.hid hrg0
    clear hrg0 hg0 hs0 c10
    go_loopw [3] (fun v3 wr => ∃ (left : Lit → Bool) (cnt : Nat) (most : Nat), v3 = .int .i64 (most : Int) ∧ Hid (wr.ranges Tryd.prog 9 Rv b w.heap.size 1000000 (toD ptr (kidsT T.L e.nm)) left cnt) ∧ Hid (most ≤ deepN T.L e.nm ∧ ∀ k, (getM (kidsT T.L e.nm) k).isSome = true → left (.string k) = false → 1 + deepN T.L (e.nm ++ [k]) ≤ most) ∧ Hid (Below w.heap.size w wr)) (fun _ wr => wr.rangeLeft b w.heap.size)
    case atStart =>
      refine ⟨_, _, 0, rfl, HRG0, Lib.hid ⟨Nat.zero_le _, fun k hk hl => ?_⟩, HB0⟩
      rw [toD_has, hk] at hl; cases hl
    case round =>
      obtain ⟨left, cnt, most, rfl, HR, HS, HB⟩ := hrel
      go_wp2_with (first
        | (at_next; refine wpList_next_ranges (α := ByteArray) (β := Value) _ rfl _ rfl 9 law Rv Value.string id str_inv held_inv b w.heap.size 1000000 _ _ _ (by first | rfl | simp [Act.eval, World.setCell]) HR.out ?_ ?_)
        | go_in)
      · intro _ hl0
        have hd : most = deepN T.L e.nm := Nat.le_antisymm HS.out.1 (deep_of H.out.parT (fun s ⟨x, hx, hxn⟩ => HS.out.2 s (by
          rw [kidsT_get H.out.srt]
          have := getT_of H.out.srt hx
          rw [hxn] at this
          rw [this]; rfl) (hl0 _)))
        subst hd
        clear hl0
        go_wp2
        go_ret
        exact ⟨rfl, HB.out⟩
      · intro x c kl yd yp w2 cnt1 hkey hlx hv hat hrg1 hlt hg1 hs1 hen
        obtain ⟨x', ex, ekl, hxl⟩ := string_of_keyOf Tryd.underlying9 hkey
        injection ex with ex
        subst ex
        subst ekl
        have hv2 : yd = .held c := by
          have := congrArg Prod.fst (Option.some.inj hv)
          exact this.symm
        subst hv2
        have hhas := has_true_of_atKey hat
        rw [toD_has] at hhas
        obtain ⟨q, hq⟩ := Option.isSome_iff_exists.1 hhas
        have hcn := hat (.held .nilIface)
        rw [toD_at, hq] at hcn
        injection hcn with hcn
        have hcn' : ptr q = c := hcn
        subst hcn'
        rw [kidsT_get H.out.srt] at hq
        obtain ⟨kn, hkn, rfl⟩ : ∃ kn, getT (e.nm ++ [x.data.toList]) T.L = some kn ∧ kn.p = q := by
          cases hg : getT (e.nm ++ [x.data.toList]) T.L with
          | none => rw [hg] at hq; cases hq
          | some kn => rw [hg] at hq; exact ⟨kn, rfl, Option.some.inj hq⟩
        obtain ⟨hkm, hknm⟩ := getT_nm hkn
        have hb2 : Below w.heap.size w w2 := HB.out.grown hg1 HB.out.size (fun y hy => by obtain rfl := Option.some.inj hy; exact Nat.le_refl _)
        have CL := IH.out kn hkm _ hknm w2 (H.out.below hb2)
        have hk1 : 1 + deepN T.L kn.nm ≤ deepN T.L e.nm := by rw [hknm]; exact deep_kid ⟨kn, hkm, hknm⟩
        have HB2 := Lib.hid hb2; have HRG := Lib.hid hrg1; have HLT := Lib.hid hlt
        have CL := Lib.hid CL
        have hd1 := HDB.out
        have hd2 : deepN T.L kn.nm ≤ 1000 := by omega
        have hms : most ≤ 1000 := Nat.le_trans HS.out.1 HDB.out
        have hwr : IntKind.i64.wrap (1 + (deepN T.L kn.nm : Int)) = 1 + (deepN T.L kn.nm : Int) := by rw [IntKind.wrap_i64]; omega
        have HK1 := Lib.hid hk1; have HKN := Lib.hid hknm
        have hrw : w.heap.size < w2.heap.size := hrg1.lt
        have HBL := Lib.hid (Nat.lt_of_lt_of_le HBW.out hb2.size)
        clear hv hat hhas hcn hq hkn hkm hknm hb2 hrg1 hlt hkey hlx hg1 hk1 hd1
        unfold ptr at CL hen ⊢
        try dsimp only [id] at hen ⊢
        go_wp2_with fail
        refine CL.out.mono ?_
        rintro ex w3 ⟨rfl, hb3⟩
        have HR3 : Hid (w3.ranges Tryd.prog 9 Rv b w.heap.size 1000000 (toD ptr (kidsT T.L e.nm)) (fun z => left z && !z.sameKey (.string x.data.toList)) cnt1) := Lib.hid (by
          obtain ⟨es, clock, since, seen, c0, h1, h2, h3, h4, h5, h6⟩ := HRG.out
          exact ⟨es, clock, since, seen, c0, (hb3.block b HBL.out).trans h1, h2, h3, h4, (hb3.block _ hrw).trans h5, h6⟩)
        have HB3 := Lib.hid (HB2.out.trans (hb3.mono HB2.out.size))
        clear hb3 CL
        go_wp2
        go_roundw
        case rel =>
          refine ⟨_, cnt1, max most (1 + deepN T.L kn.nm), ?_, HR3, Lib.hid ⟨Nat.max_le.2 ⟨HS.out.1, HK1.out⟩, fun k hk hl => ?_⟩, HB3⟩
          · go_num
          · simp only [Bool.and_eq_false_iff, Bool.not_eq_false', sameKey_string, beq_iff_eq] at hl
            rcases hl with hl | rfl
            · exact Nat.le_trans (HS.out.2 k hk hl) (Nat.le_max_left _ _)
            · rw [← HKN.out]; exact Nat.le_max_right _ _
        case measure =>
          rw [HR3.out.left_eq, HR.out.left_eq]; exact HLT.out
theorem deep_any (B r : Nat) (T : Tr) (hM : ∀ e ∈ T.L, e.nm.length ≤ 1000) : ∀ (k : Nat) (e : TE), e ∈ T.L → 1000 ≤ e.nm.length + k → DeepOk B r T e
  | 0, e, he, hk => deep_step B r T hM e he (fun x hx s hxn => by
      have h1 := hM x hx
      have h2 := congrArg List.length hxn
      rw [List.length_append] at h2
      simp at h2
      omega)
  | k + 1, e, he, hk => deep_step B r T hM e he (fun x hx s hxn => deep_any B r T hM k x hx (by
      have h2 := congrArg List.length hxn
      rw [List.length_append] at h2
      simp at h2
      omega))
end Go.Proofs.YtkdkifciajfpnaaDoor.Sr
