import Derived.Test.YthcjjekkjbidlaaDoorZPSrDrop
set_option linter.unusedSimpArgs false
set_option linter.unusedVariables false
/-
  The contracts of Read, Reads, Now and Folder.
-/
namespace Go.Proofs.YthcjjekkjbidlaaDoor.Sr
open Go.RowKit Go.Maps Go.WideMaps Go.Proofs.YthcjjekkjbidlaaDoor.Rf Go.Proofs.YthcjjekkjbidlaaDoor.Nm Go.Proofs.YthcjjekkjbidlaaDoor.St

def readE (p : List UInt8) (L : List TE) : Int :=
  if splitE p ≠ 0 then 10 else match getT (splitL p) L with
    | none => 6
    | some n => if n.at_.node ≠ 1 then 11 else 0
def readD (p : List UInt8) (L : List TE) : List UInt8 :=
  if readE p L = 0 then match getT (splitL p) L with | none => [] | some n => n.data else []
/-- What Read answers, and leaves. -/
def ReadPost (B : Nat) (w : World) (r : Nat) (T : Tr) (p : List UInt8) (e : Ending) (w' : World) : Prop :=
  e = .returned (.tuple #[.string ⟨(readD p T.L).toArray⟩, .int .i64 (readE p T.L)]) ∧ TreeAt B w' r (if readE p T.L = 0 then { T with reads := T.reads + 1 } else T) ∧ Turn [r] w w'
set_option linter.unusedSimpArgs false in
set_option maxHeartbeats 8000000 in
set_option maxRecDepth 100000 in
theorem read_any (B : Nat) (w : World) (r : Nat) (T : Tr) (p : List UInt8) (hp : p.length ≤ 4611686018427387904) (hrd : T.reads < 4611686018427387904) (h : TreeAt B w r T) :
    Calls Tryd.prog 10 #[ptr r, .string ⟨p.toArray⟩] w (ReadPost B w r T p) := by
  have FI := Lib.hid (find_any B w r T p hp h)
  have H := Lib.hid h
  clear h
  unfold ptr at *
  go_enter Tryd.func10, Tryd.ntmps10
  go_wp2_with fail
  refine FI.out.mono ?_
  rintro ex w1 ⟨v, rfl, hp1, hb1⟩
  have HB := Lib.hid hb1
  obtain ⟨va, vc, rfl⟩ := rowS_slice hp1.row
  clear FI hp1 hb1
  rw [findE, findN]
  rcases splitE_cases p with h0 | ⟨h0, _⟩
  case inr =>
    have hc : readE p T.L = 10 := by rw [readE, if_pos (by rw [h0]; decide)]
    have hd : readD p T.L = [] := by rw [readD, if_neg (by rw [hc]; decide)]
    rw [if_neg (by rw [h0]; decide), if_neg (by rw [h0]; decide)]
    have HC := Lib.hid hc; have HD := Lib.hid hd
    unfold ptrO
    clear h0 hc hd
    go_wp2
    go_ret2
    refine ⟨by rw [HC.out, HD.out]; rfl, ?_, Turn.of_below HB.out⟩
    rw [if_neg (by rw [HC.out]; decide)]; exact H.out.below HB.out
  rw [if_pos h0, if_pos h0]
  have HE1 : Hid (readE p T.L = match getT (splitL p) T.L with
    | none => 6
    | some n => if n.at_.node ≠ 1 then 11 else 0) := Lib.hid (by rw [readE, if_neg (by rw [h0]; decide)])
  clear h0
  cases hg : getT (splitL p) T.L with
  | none =>
    have hc : readE p T.L = 6 := by rw [HE1.out, hg]
    have hd : readD p T.L = [] := by rw [readD, if_neg (by rw [hc]; decide)]
    have HC := Lib.hid hc; have HD := Lib.hid hd
    unfold ptrO
    clear hg hc hd HE1
    go_wp2
    go_ret2
    refine ⟨by rw [HC.out, HD.out]; rfl, ?_, Turn.of_below HB.out⟩
    rw [if_neg (by rw [HC.out]; decide)]; exact H.out.below HB.out
  | some n =>
    obtain ⟨hn, _⟩ := getT_nm hg
    have H1 := Lib.hid (H.out.below HB.out)
    have c2 : w1.cell? ⟨n.p, 2, none⟩ = some (.int .u8 (n.at_.node : Int)) := cell_of_heap (H1.out.node n hn).cells
    unfold ptrO
    by_cases h1 : n.at_.node = 1
    case neg =>
      have hc : readE p T.L = 11 := by rw [HE1.out, hg]; exact if_pos h1
      have hd : readD p T.L = [] := by rw [readD, if_neg (by rw [hc]; decide)]
      have HC := Lib.hid hc; have HD := Lib.hid hd
      have hb : (((n.at_.node : Nat) : Int) == 1) = false := by rw [beq_eq_false_iff_ne]; omega
      have hb2 : (((n.at_.node : Nat) : Int) != 1) = true := by rw [bne, hb]; rfl
      clear HE1 hg hc hd hn h1
      go_wp2
      go_ret2
      refine ⟨by rw [HC.out, HD.out]; rfl, ?_, Turn.of_below HB.out⟩
      rw [if_neg (by rw [HC.out]; decide)]; exact H1.out
    have hc : readE p T.L = 0 := by rw [HE1.out, hg]; exact if_neg (by simpa using h1)
    have hd : readD p T.L = n.data := by rw [readD, if_pos hc, hg]
    have HC := Lib.hid hc; have HD := Lib.hid hd
    obtain ⟨e0, he0, hr0⟩ := H1.out.root
    rw [h1] at c2
    have c3 : w1.cell? ⟨r, 3, none⟩ = some (.int .i64 (T.reads : Int)) := cell_of_heap hr0
    have f3 : w1.frozen? ⟨r, 3, none⟩ = false := frozen_of_heap hr0
    have hwr : IntKind.i64.wrap ((T.reads : Int) + 1) = (T.reads : Int) + 1 := by rw [IntKind.wrap_i64]; omega
    have HTR : Hid (TreeAt B (w1.setCell ⟨r, 3, none⟩ (.int .i64 ((T.reads : Int) + 1))) r { T with reads := T.reads + 1 }) := Lib.hid (by
      refine H1.out.head he0 (c := T.clock) (m := T.most) (n := T.reads + 1) ?_ (fun b hb => Below.heap_setCell _ _ _ _ ?_) (by rw [World.size_setCell]; exact Nat.le_refl _)
      · rw [setCell_heap _ _ _ _ _ _ hr0]; rfl
      · rintro rfl
        rcases List.mem_append.1 hb with hb | hb
        · exact H1.out.r_own hb
        · exact H1.out.xoff _ hb (by simp))
    have hcd : (w1.setCell ⟨r, 3, none⟩ (.int .i64 ((T.reads : Int) + 1))).cell? ⟨n.p, 9, none⟩ = some (.string ⟨n.data.toArray⟩) := cell_of_heap (HTR.out.node n hn).cells
    have hne : n.p ≠ r := by rintro hnr; exact H1.out.r_own (hnr ▸ ownL_mem hn)
    have HTU : Hid (Turn [r] w (w1.setCell ⟨r, 3, none⟩ (.int .i64 ((T.reads : Int) + 1)))) := Lib.hid ((Turn.of_below HB.out : Turn [r] w w1).setCell (.inl (by simp)) _)
    clear HE1 hg hc hd hn h1 hr0 he0
    go_wp2
    go_ret2
    refine ⟨by rw [HC.out, HD.out]; rfl, ?_, HTU.out⟩
    rw [if_pos HC.out]; exact HTR.out

/-- As a folder's. -/
def asFold (A : XA) : XA := { A with node := 2, target := [] }
/-- What add made of the tree, told as a call's. -/
theorem AddPost.call {B : Nat} {w w0 w' : World} {r : Nat} {T : Tr} {p d : List UInt8} {A : XA} {e : Ending} (h : AddPost B w r T p d A e w') (hT : TreeAt B w0 r T) (hb : Below w0.heap.size w0 w) (hd : d.length ≤ 1048576 ∨ addE p d A T ≠ 0) (hkk : (splitL p).length ≤ 16) :
    e = .returned (.int .i64 (addE p d A T)) ∧ ∃ T', CallT B w0 r T w' T' ∧ (addE p d A T ≠ 0 → T' = T) ∧ (addE p d A T = 0 → ∃ n u, u ∈ T.L ∧ u.nm = (splitL p).dropLast ∧ n.nm = splitL p ∧ n.ino = T.most + 1 ∧ n.at_ = A ∧ n.data = d ∧ n.tick = 0 ∧ T' = { T with clock := T.clock + 1, most := T.most + 1, L := tickT [n.p, u.p] ((T.clock + 1 : Nat) : Int) (insT n T.L) }) := by
  obtain ⟨he, hno, hyes⟩ := h
  refine ⟨he, ?_⟩
  by_cases h0 : addE p d A T = 0
  · obtain ⟨n, u, hu, hun, hn, hi, ha, hdd, ht, htree, hturn, hnew⟩ := hyes h0
    refine ⟨_, ⟨htree, (Turn.of_below hb).trans hturn (fun y hy => .inl hy), fun b hb' => ?_, ?_⟩, fun h1 => absurd h0 h1, fun _ => ⟨n, u, hu, hun, hn, hi, ha, hdd, ht, rfl⟩⟩
    · have hnew' : ∀ b ∈ ownE n ++ xob n.at_.xs n.xv, w0.heap.size ≤ b := fun b hb2 => Nat.le_trans hb.size (hnew b hb2)
      rw [List.mem_append] at hb' ⊢
      rcases hb' with hb' | hb'
      · have hb' : b ∈ ownL (tickT [n.p, u.p] _ (insT n T.L)) := hb'
        rw [own_tickT, (own_ins n T.L).mem_iff, List.mem_append] at hb'
        rcases hb' with hb' | hb'
        · exact .inr (hnew' b (by simp [hb']))
        · exact .inl (.inl hb')
      · obtain ⟨x', hx', hb'⟩ := List.mem_flatMap.1 hb'
        have : ∃ x ∈ insT n T.L, b ∈ xob x.at_.xs x.xv := by
          obtain ⟨x, hx, rfl | rfl⟩ := tickT_mem hx'
          · exact ⟨_, hx, hb'⟩
          · exact ⟨x, hx, hb'⟩
        obtain ⟨x, hx, hb2⟩ := this
        rcases mem_insT.1 hx with rfl | hx
        · exact .inr (hnew' b (by simp [hb2]))
        · exact .inl (.inr (List.mem_flatMap.2 ⟨x, hx, hb2⟩))
    · have hE := h0
      rw [addE] at hE
      split at hE
      · cases hE
      · next hs =>
        split at hE
        · cases hE
        · next hck =>
          split at hE
          · cases hE
          · next hgn =>
            split at hE
            · next h5 => exact absurd hE h5
            · split at hE
              · cases hE
              · next h6 =>
                have hgn' : getT (splitL p) T.L = none := by
                  cases hq : getT (splitL p) T.L with
                  | none => rfl
                  | some x => rw [hq] at hgn; exact absurd rfl hgn
                refine .add n u hu ⟨by rw [hn]; exact hT.root_path hgn', by rw [hn]; exact hun⟩ (by rw [hn]; exact hgn') hi ht (by omega) ?_ ?_ ⟨by rw [hn]; exact hkk, fun s hs => splitL_chk (by rw [hn] at hs; exact hs)⟩
                · rw [hdd]; rcases hd with hd | hd
                  · exact hd
                  · exact absurd h0 hd
                · rw [ha]; by_cases hA : chkA A = true
                  · exact hA
                  · exact absurd (.inl (by simpa using hA)) hck
  · obtain ⟨h1, h2⟩ := hno h0
    exact ⟨T, ⟨h1, Turn.of_below (hb.trans (h2.mono hb.size)), fun _ h => .inl h, .same T⟩, fun _ => rfl, fun h => absurd h h0⟩
end Go.Proofs.YthcjjekkjbidlaaDoor.Sr
