import Derived.Test.YtnkapojbijbbaaaGreatDoorZPSrNew
import Derived.Test.YtnkapojbijbbaaaGreatDoorZPZz
import Derived.Test.YtnkapojbijbbaaaGreatDoorZPStEncode
import Derived.Test.YtnkapojbijbbaaaGreatDoorZPSrIns
import Derived.Maps.RangeWalk
set_option linter.unusedSimpArgs false
set_option linter.unusedVariables false
set_option maxHeartbeats 8000000
set_option maxRecDepth 100000
namespace Go.Proofs.YtnkapojbijbbaaaGreatDoor.Sr
open Go.RowKit Go.Maps Go.WideMaps Rf Go.Proofs.YtnkapojbijbbaaaGreatDoor.Nm St
def readE (p : List UInt8) (L : List TE) : Int :=
 if splitE p ≠ 0 then 10 else match getT (splitL p) L with
  | none => 6
  | some n => if n.at_.node ≠ 1 then 11 else 0
theorem reads_any (B : Nat) (w : World) (r : Nat) (T : Tr) (h : TreeAt B w r T) :
 Calls Tryz.prog 15 #[ptr r] w fun e w' => e = .returned (.int .i64 (T.reads : Int)) ∧ w' = w := by
 obtain ⟨e0, he0, hq0⟩ := h.root
 have c1 : w.cell? ⟨r, 3, none⟩ = some (.int .i64 (T.reads : Int)) := cell_of_heap hq0
 unfold ptr at *
 clear he0 hq0 h
 go_enter Tryz.func15, Tryz.ntmps15
 go_wp2
 go_ret
 exact ⟨rfl, rfl⟩
def asFold (A : XA) : XA := { A with node := 2, target := [] }
theorem AddPost.call {B : Nat} {w w0 w' : World} {r : Nat} {T : Tr} {p d : List UInt8} {A : XA} {e : Ending} (h : AddPost B w r T p d A e w') (hT : TreeAt B w0 r T) (hb : Below w0.heap.size w0 w) (hd : d.length ≤ 1048576 ∨ addE p d A T ≠ 0) (hkk : (splitL p).length ≤ 16) :
 e = .returned (.int .i64 (addE p d A T)) ∧ ∃ T', CallT B w0 r T w' T' ∧ (addE p d A T ≠ 0 → T' = T) ∧ (addE p d A T = 0 → ∃ n u, u ∈ T.L ∧ u.nm = (splitL p).dropLast ∧ n.nm = splitL p ∧ n.ino = T.most + 1 ∧ n.at_ = A ∧ n.data = d ∧ n.tick = 0 ∧ T' = { T with clock := T.clock + 1, most := T.most + 1, L := tickT [n.p, u.p] ((T.clock + 1 : Nat) : Int) (insT n T.L) }) := by
 obtain ⟨he, hno, hyes⟩ := h
 refine ⟨he, ?_⟩
 by_cases h0 : addE p d A T = 0
 · obtain ⟨n, u, hu, hun, hn, hi, ha, hdd, ht, htree, hturn, hnew⟩ := hyes h0
   refine ⟨_, ⟨htree, (Turn.of_below hb).trans hturn (fun y hy => .inl hy), fun b hb' => ?_, ?_⟩, fun h1 => absurd h0 h1, fun _ => ⟨n, u, hu, hun, hn, hi, ha, hdd, ht, rfl⟩⟩
   · have hnew' : ∀ b ∈ ownE n ++ xob n.at_.xs n.xv, w0.heap.size ≤ b := fun b hb2 => Nat.le_trans hb.size (hnew b hb2)
     rw [List.mem_append] at hb' ⊢
     rcases hb' with hb' | hb'
     · have hb' : b ∈ ownL (tickT [n.p, u.p] _ (insT n T.L)) := hb'
       rw [own_tickT, (own_ins n T.L).mem_iff, List.mem_append] at hb'
       rcases hb' with hb' | hb'
       · exact .inr (hnew' b (by simp [hb']))
       · exact .inl (.inl hb')
     · obtain ⟨x', hx', hb'⟩ := List.mem_flatMap.1 hb'
       have : ∃ x ∈ insT n T.L, b ∈ xob x.at_.xs x.xv := by
        obtain ⟨x, hx, rfl | rfl⟩ := tickT_mem hx'
        · exact ⟨_, hx, hb'⟩
        · exact ⟨x, hx, hb'⟩
       obtain ⟨x, hx, hb2⟩ := this
       rcases mem_insT.1 hx with rfl | hx
       · exact .inr (hnew' b (by simp [hb2]))
       · exact .inl (.inr (List.mem_flatMap.2 ⟨x, hx, hb2⟩))
   · have hE := h0
     rw [addE] at hE
     split at hE
     · cases hE
     · next hs =>
       split at hE
       · cases hE
       · next hck =>
         split at hE
         · cases hE
         · next hgn =>
           split at hE
           · next h5 => exact absurd hE h5
           · split at hE
             · cases hE
             · next h6 =>
               have hgn' : getT (splitL p) T.L = none := by
                cases hq : getT (splitL p) T.L with
                | none => rfl
                | some x => rw [hq] at hgn; exact absurd rfl hgn
               refine .add n u hu ⟨by rw [hn]; exact hT.root_path hgn', by rw [hn]; exact hun⟩ (by rw [hn]; exact hgn') hi ht (by omega) ?_ ?_ ⟨by rw [hn]; exact hkk, fun s hs => splitL_chk (by rw [hn] at hs; exact hs)⟩
               · rw [hdd]; rcases hd with hd | hd
                 · exact hd
                 · exact absurd h0 hd
               · rw [ha]; by_cases hA : chkA A = true
                 · exact hA
                 · exact absurd (.inl (by simpa using hA)) hck
 · obtain ⟨h1, h2⟩ := hno h0
   exact ⟨T, ⟨h1, Turn.of_below (hb.trans (h2.mono hb.size)), fun _ h => .inl h, .same T⟩, fun _ => rfl, fun h => absurd h h0⟩
end Go.Proofs.YtnkapojbijbbaaaGreatDoor.Sr
namespace Go.Proofs.YtnkapojbijbbaaaGreatDoor.Sr
open Go.RowKit Go.Maps Go.WideMaps Rf Go.Proofs.YtnkapojbijbbaaaGreatDoor.Nm St
def asOf (A : XA) (n : TE) : XA := { A with node := n.at_.node, target := n.at_.target }
def chgE (A : XA) (n : TE) (T : Tr) : Int := if chkA (asOf A n) = false then 1 else if 1099511627776 ≤ T.clock then 3 else 0
def ChgP (B : Nat) (w : World) (r : Nat) (T : Tr) (A : XA) (n : TE) (e : Ending) (w' : World) : Prop :=
 e = .returned (.int .i64 (chgE A n T)) ∧ ∃ T', CallT B w r T w' T' ∧ (chgE A n T ≠ 0 → T' = T) ∧
   (chgE A n T = 0 → ∃ xv, T' = { T with clock := T.clock + 1, L := tickT [n.p] ((T.clock + 1 : Nat) : Int) (updT { n with at_ := asOf A n, xv := xv } T.L) })
theorem change_any (B : Nat) (w : World) (r : Nat) (T : Tr) (n : TE) (hn : n ∈ T.L) (A : XA) (v : Value) (hv : XsAt w v A.xs) (hnd : n.data.length ≤ 1048576) (hB : B ≤ w.heap.size) (h : TreeAt B w r T) :
 Calls Tryz.prog 67 #[ptr r, ptr n.p, .agg (A.cells v).toArray] w (ChgP B w r T A n) := by
 obtain ⟨W, hW⟩ : ∃ W, W = w.alloc (.cells (A.cells v).toArray AtT) := ⟨_, rfl⟩
 have hb0 : Below w.heap.size w W := by rw [hW]; exact (Below.refl _ _).alloc (Nat.le_refl _) _
 have hq0 : W.heap[w.heap.size]? = some (.cells (A.cells v).toArray AtT) := by rw [hW]; exact (MapKept.heap_alloc w _).1
 have hlw : n.p < w.heap.size := h.lt n.p (by have := ownL_mem hn; simp [this])
 have q2 := (h.below hb0).node n hn
 have c2 : W.drew.cell? ⟨n.p, 2, none⟩ = some (.int .u8 (n.at_.node : Int)) := cell_of_heap q2.cells
 have c7 : W.drew.cell? ⟨n.p, 7, none⟩ = some (.string ⟨n.at_.target.toArray⟩) := cell_of_heap q2.cells
 obtain ⟨WA, hWA⟩ : ∃ WA, WA = (w.alloc (.cells ((A.cells v).set 0 (.int .u8 (n.at_.node : Int))).toArray AtT)).drew := ⟨_, rfl⟩
 obtain ⟨WB, hWB⟩ : ∃ WB, WB = (w.alloc (.cells (((A.cells v).set 0 (.int .u8 (n.at_.node : Int))).set 5 (.string ⟨n.at_.target.toArray⟩)).toArray AtT)).drew := ⟨_, rfl⟩
 have hqB : WB.heap[w.heap.size]? = some (.cells ((asOf A n).cells v).toArray AtT) := by rw [hWB]; exact (MapKept.heap_alloc w _).1
 have hbA : Below w.heap.size w WA := by rw [hWA]; exact ((Below.refl _ _).alloc (Nat.le_refl _) _).drew
 have hbB : Below w.heap.size w WB := by rw [hWB]; exact ((Below.refl _ _).alloc (Nat.le_refl _) _).drew
 have cA2 : WA.cell? ⟨n.p, 2, none⟩ = some (.int .u8 (n.at_.node : Int)) := cell_of_heap ((h.below hbA).node n hn).cells
 have cA7 : WA.cell? ⟨n.p, 7, none⟩ = some (.string ⟨n.at_.target.toArray⟩) := cell_of_heap ((h.below hbA).node n hn).cells
 have HS0 : Hid ((w.alloc (.cells (A.cells v).toArray AtT)).drew.cell? ⟨n.p, 2, none⟩ = some (.int .u8 (n.at_.node : Int)) ∧ (w.alloc (.cells (A.cells v).toArray AtT)).drew.cell? ⟨n.p, 7, none⟩ = some (.string ⟨n.at_.target.toArray⟩)) := Lib.hid (by rw [← hW]; exact ⟨c2, c7⟩)
 have HSA : Hid ((w.alloc (.cells ((A.cells v).set 0 (.int .u8 (n.at_.node : Int))).toArray AtT)).drew.cell? ⟨n.p, 2, none⟩ = some (.int .u8 (n.at_.node : Int)) ∧ (w.alloc (.cells ((A.cells v).set 0 (.int .u8 (n.at_.node : Int))).toArray AtT)).drew.cell? ⟨n.p, 7, none⟩ = some (.string ⟨n.at_.target.toArray⟩)) := Lib.hid (by rw [← hWA]; exact ⟨cA2, cA7⟩)
 have HSB : Hid ((w.alloc (.cells (((A.cells v).set 0 (.int .u8 (n.at_.node : Int))).set 5 (.string ⟨n.at_.target.toArray⟩)).toArray AtT)).drew.cell? ⟨n.p, 2, none⟩ = some (.int .u8 (n.at_.node : Int)) ∧ (w.alloc (.cells (((A.cells v).set 0 (.int .u8 (n.at_.node : Int))).set 5 (.string ⟨n.at_.target.toArray⟩)).toArray AtT)).drew.cell? ⟨n.p, 7, none⟩ = some (.string ⟨n.at_.target.toArray⟩)) := Lib.hid (by
  rw [← hWB]
  exact ⟨cell_of_heap ((h.below hbB).node n hn).cells, cell_of_heap ((h.below hbB).node n hn).cells⟩)
 have kb0 : (w.alloc (.cells (A.cells v).toArray AtT)).drew.cell? ⟨w.heap.size, 0, none⟩ = some (.int .u8 (A.node : Int)) := by rw [← hW]; exact cell_of_heap hq0
 have fb0 : (w.alloc (.cells (A.cells v).toArray AtT)).drew.frozen? ⟨w.heap.size, 0, none⟩ = false := by rw [← hW]; exact frozen_of_heap hq0
 have hXB : XsAt WB v (asOf A n).xs := hv.kept hbB.size (fun b hb => hbB.block b (hv.lt b hb))
 have CH := chk_any WB (asOf A n) v hXB
 have H := Lib.hid h; have HBB := Lib.hid hbB; have HQB := Lib.hid hqB; have HWB := Lib.hid hWB; have HWA := Lib.hid hWA; have HXB := Lib.hid hXB; have HN := Lib.hid hn; have HND := Lib.hid hnd; have HBS := Lib.hid hB
 have HWW := Lib.hid hW
 have HLW : Hid (w.heap.size < WB.heap.size) := Lib.hid (lt_of_heap hqB)
 clear h hb0 hq0 q2 c2 c7 hqB hbA hbB cA2 cA7 hXB hn hnd hB hv hW HWA
 unfold ptr at *
 go_enter Tryz.func67, Tryz.ntmps67
 go_wp2_with fail
 refine wp_region_held_drew (S := (fun w' : World => w'.cell? ⟨n.p, 2, none⟩ = some (.int .u8 (n.at_.node : Int)) ∧ w'.cell? ⟨n.p, 7, none⟩ = some (.string ⟨n.at_.target.toArray⟩))) (by kernel_rfl) HS0.out (fun hHeld => ?_)
 refine tk 0 rfl (v := ?_) (fun _ _ _ h => h) ?aa0 hHeld ?_
 case aa0 => intro wS hSw; obtain ⟨k0, k1⟩ := hSw; go_simp; try with_reducible rfl
 try simp only [Act.put, zA, zB, zC, zD, zE, zF]
 refine tk 1 rfl (v := ?_) (fun _ _ _ h => h) ?aa1 hHeld ?_
 case aa1 => intro wS hSw; obtain ⟨k0, k1⟩ := hSw; go_simp; try with_reducible rfl
 try simp only [Act.put, zA, zB, zC, zD, zE, zF]
 refine tk 2 rfl (v := ?_) (fun _ _ _ h => h) ?aa2 hHeld ?_
 case aa2 => intro wS hSw; obtain ⟨k0, k1⟩ := hSw; go_simp; try with_reducible rfl
 try simp only [Act.put, zA, zB, zC, zD, zE, zF]
 refine tk 3 rfl (v := ?_) (fun _ _ _ h => h) ?aa3 hHeld ?_
 case aa3 => intro wS hSw; obtain ⟨k0, k1⟩ := hSw; go_simp; try with_reducible rfl
 try simp only [Act.put, zA, zB, zC, zD, zE, zF]
 refine tk 4 rfl (v := ?_) (fun _ _ _ h => h) ?aa4 hHeld ?_
 case aa4 => intro wS hSw; obtain ⟨k0, k1⟩ := hSw; go_simp; try with_reducible rfl
 try simp only [Act.put, zA, zB, zC, zD, zE, zF]
 refine tk 5 rfl (v := ?_) (fun _ _ _ h => h) ?aa5 hHeld ?_
 case aa5 => intro wS hSw; obtain ⟨k0, k1⟩ := hSw; go_simp; try with_reducible rfl
 try simp only [Act.put, zA, zB, zC, zD, zE, zF]
 refine tk 6 rfl (v := ?_) (fun _ _ _ h => h) ?aa6 hHeld ?_
 case aa6 => intro wS hSw; obtain ⟨k0, k1⟩ := hSw; go_simp; try with_reducible rfl
 try simp only [Act.put, zA, zB, zC, zD, zE, zF]
 refine tk 7 rfl (v := ?_) (fun _ _ _ h => h) ?aa7 hHeld ?_
 case aa7 => intro wS hSw; obtain ⟨k0, k1⟩ := hSw; go_simp; try with_reducible rfl
 try simp only [Act.put, zA, zB, zC, zD, zE, zF]
 refine tk 8 rfl (v := ?_) (fun _ _ _ h => h) ?aa8 hHeld ?_
 case aa8 => intro wS hSw; obtain ⟨k0, k1⟩ := hSw; go_simp; try with_reducible rfl
 try simp only [Act.put, zA, zB, zC, zD, zE, zF]
 refine tk 9 rfl (v := ?_) (fun _ _ _ h => h) ?aa9 hHeld ?_
 case aa9 => intro wS hSw; obtain ⟨k0, k1⟩ := hSw; go_simp; try with_reducible rfl
 try simp only [Act.put, zA, zB, zC, zD, zE, zF]
 refine tk 10 rfl (v := ?_) (fun _ _ _ h => h) ?aa10 hHeld ?_
 case aa10 => intro wS hSw; obtain ⟨k0, k1⟩ := hSw; go_simp; try with_reducible rfl
 try simp only [Act.put, zA, zB, zC, zD, zE, zF]
 refine wpAnyH_ready (rs := [11]) (by kernel_rfl) (by simp) ?_
 refine AllReadyH.cons rfl (fun K hK => ?_) AllReadyH.nil
 go_simp
 refine hK.out _ _ HSA.out (fun hHeld2 => ?_)
 clear hK K hHeld
 have hHeld := hHeld2
 clear hHeld2
 try simp only [Act.put, zA, zB, zC, zD, zE, zF]
 refine tk 12 rfl (v := ?_) (fun _ _ _ h => h) ?aa12 hHeld ?_
 case aa12 => intro wS hSw; obtain ⟨k0, k1⟩ := hSw; go_simp; try with_reducible rfl
 try simp only [Act.put, zA, zB, zC, zD, zE, zF]
 refine wpAnyH_ready (rs := [13]) (by kernel_rfl) (by simp) ?_
 refine AllReadyH.cons rfl (fun K hK => ?_) AllReadyH.nil
 go_simp
 refine hK.out _ _ HSB.out (fun hHeld2 => ?_)
 clear hK K hHeld
 have hHeld := hHeld2
 clear hHeld2
 try simp only [Act.put, zA, zB, zC, zD, zE, zF]
 refine wpAnyH_done (by kernel_rfl) ?_ _
 clear hHeld
 try simp only [Act.put, zA, zB, zC, zD, zE, zF]
 clear kb0 fb0
 rw [← HWB.out]
 clear hWA hWB
 by_cases hck : chkA (asOf A n) = true
 case neg =>
  have hc : chgE A n T = 1 := by rw [chgE, if_pos (by simpa using hck)]
  rw [chkAE, if_neg hck] at CH
  have CH := Lib.hid CH
  have HC := Lib.hid hc
  clear hck hc
  go_wp2_with (first
   | (refine Sh.wpList_load_at (T := AtT) (cs := ((asOf A n).cells v).toArray) HQB.out rfl AtT (.tmp 5) rfl rfl _ Tryz.underlying79 rfl (infoAt _ _) ?_)
   | fail)
  refine CH.out.mono ?_
  rintro ex w2 ⟨rfl, hb2⟩
  have HB2 := Lib.hid (HBB.out.trans (hb2.mono HBB.out.size))
  clear hb2 CH
  go_wp2
  go_ret
  exact ⟨by rw [HC.out]; rfl, T, .same H.out HB2.out, fun _ => rfl, fun h => by rw [HC.out] at h; cases h⟩
 have hl16 := (chkA_parts hck).2.2.1
 have HE := Lib.hid (show chgE A n T = if 1099511627776 ≤ T.clock then 3 else 0 by rw [chgE, if_neg (by rw [hck]; decide)])
 rw [chkAE, if_pos hck] at CH
 have CH := Lib.hid CH
 have HCK := Lib.hid hck
 clear hck
 by_cases hst : 1099511627776 ≤ T.clock
 · have HC := Lib.hid (show chgE A n T = 3 by rw [HE.out, if_pos hst])
   clear hl16
   go_wp2_with (first
    | (refine Sh.wpList_load_at (T := AtT) (cs := ((asOf A n).cells v).toArray) HQB.out rfl AtT (.tmp 5) rfl rfl _ Tryz.underlying79 rfl (infoAt _ _) ?_)
    | fail)
   refine CH.out.mono ?_
   rintro ex w2 ⟨rfl, hb2⟩
   have HB2 := Lib.hid (HBB.out.trans (hb2.mono HBB.out.size))
   clear hb2 CH
   have ST := still_any B w2 r T (H.out.below HB2.out)
   rw [decide_eq_true hst] at ST
   unfold ptr at ST
   have ST := Lib.hid ST
   clear hst
   go_wp2_with fail
   refine ST.out.mono ?_
   rintro ex w3 ⟨rfl, hw3⟩
   obtain rfl : w2 = w3 := hw3.symm
   go_wp2
   go_ret
   exact ⟨by rw [HC.out]; rfl, T, .same H.out HB2.out, fun _ => rfl, fun h => by rw [HC.out] at h; cases h⟩
 have HC := Lib.hid (show chgE A n T = 0 by rw [HE.out, if_neg hst])
 have HCL : Hid (T.clock < 1099511627776) := Lib.hid (by omega)
 go_wp2_with (first
  | (refine Sh.wpList_load_at (T := AtT) (cs := ((asOf A n).cells v).toArray) HQB.out rfl AtT (.tmp 5) rfl rfl _ Tryz.underlying79 rfl (infoAt _ _) ?_)
  | fail)
 refine CH.out.mono ?_
 rintro ex w2 ⟨rfl, hb2⟩
 have HB2 := Lib.hid (HBB.out.trans (hb2.mono HBB.out.size))
 have HQ2 := Lib.hid ((hb2.block _ HLW.out).trans HQB.out)
 have hX2 := HXB.out.kept hb2.size (fun b hb => hb2.block b (HXB.out.lt b hb))
 clear hb2 CH
 have ST := still_any B w2 r T (H.out.below HB2.out)
 rw [decide_eq_false hst] at ST
 unfold ptr at ST
 have ST := Lib.hid ST
 have OW := Lib.hid (own_any w2 (asOf A n) v hX2 (by show A.xs.length ≤ 1000; change A.xs.length ≤ 16 at hl16; omega))
 clear hst hX2 hl16
 go_wp2_with fail
 refine ST.out.mono ?_
 rintro ex w3 ⟨rfl, hw3⟩
 obtain rfl : w2 = w3 := hw3.symm
 go_wp2_with (first
  | (refine Sh.wpList_load_at (T := AtT) (cs := ((asOf A n).cells v).toArray) HQ2.out rfl AtT (.tmp 5) rfl rfl _ Tryz.underlying79 rfl (infoAt _ _) ?_)
  | fail)
 refine OW.out.mono ?_
 rintro ex w4 ⟨v4, rfl, hx4, hf4, hb4⟩
 have HB4 := Lib.hid (HB2.out.trans (hb4.mono HB2.out.size))
 have HX4 := Lib.hid hx4
 have HF4 : Hid (∀ b ∈ xob A.xs v4, w.heap.size ≤ b) := Lib.hid (fun b hb => Nat.le_trans HB2.out.size (hf4 b hb))
 have hov : v4.oneCell' = true := xs_one hx4
 have HON : Hid ((((asOf A n).cells v4).toArray).all (·.oneCell') = true) := Lib.hid (atOne _ hov)
 have H4 := Lib.hid (H.out.below HB4.out)
 have hq4 := (H4.out.node n HN.out).cells
 have HTH : Hid (w4.there n.p 2 7) := Lib.hid (fun i hi => ⟨by
  show (w4.cell? ⟨n.p, 2 + i, none⟩).isSome = true
  obtain ⟨u, hu⟩ : ∃ u, n.cells.toArray[2 + i]? = some u := ⟨_, Array.getElem?_eq_getElem (by show 2 + i < 11; omega)⟩
  rw [show w4.cell? ⟨n.p, 2 + i, none⟩ = some u from (cell_of_heap hq4).trans hu]; rfl, frozen_of_heap hq4⟩)
 have hnew : ∃ cur', (w4.setCells n.p 2 ((asOf A n).cells v4)).heap[n.p]? = some (.cells cur' NdT) ∧ cur'.size = n.cells.toArray.size ∧ cur'.toList = n.cells.toArray.toList.take 2 ++ (asOf A n).cells v4 ++ n.cells.toArray.toList.drop (2 + ((asOf A n).cells v4).length) := heap_setCells _ 2 w4 _ hq4 (by show 2 + 7 ≤ 11; omega)
 have HU : Hid ((w4.setCells n.p 2 ((asOf A n).cells v4)).heap[n.p]? = some (.cells (TE.cells { n with at_ := asOf A n, xv := v4 }).toArray NdT)) := Lib.hid (by
  obtain ⟨cur', h1, _, h3⟩ := hnew
  rw [h1]
  have : cur' = (TE.cells { n with at_ := asOf A n, xv := v4 }).toArray := by
   apply Array.ext'
   rw [h3]
   simp [TE.cells, XA.cells]
  rw [this])
 have HT4 : Hid (Turn [n.p] w4 (w4.setCells n.p 2 ((asOf A n).cells v4))) := Lib.hid (turn_setCells _ _ _ _)
 have HPO : Hid (n.p ∈ ownL T.L) := Lib.hid (ownL_mem HN.out)
 have HTR : Hid (TreeAt B (w4.setCells n.p 2 ((asOf A n).cells v4)) r { T with L := updT { n with at_ := asOf A n, xv := v4 } T.L }) := Lib.hid (by
  refine H4.out.put (e := n) HN.out rfl rfl rfl (H4.out.kind n HN.out) HU.out (HX4.out.kept HT4.out.size (fun b hb => HT4.out.block b (HX4.out.lt b hb) ?_)) (fun b hb => ⟨fun hbo => ?_, Nat.le_trans HBS.out (HF4.out b hb)⟩) (fun b hb hne => HT4.out.block b (H4.out.lt b hb) (by simpa using hne)) HT4.out.size
  · have := HF4.out b hb
    have := H.out.lt n.p (by simp [HPO.out])
    simp; omega
  · have h1 := HF4.out b hb
    have h2 := H.out.lt b (by
     rw [List.mem_cons] at hbo ⊢
     rcases hbo with hbo | hbo
     · exact .inl hbo
     · exact .inr (List.mem_append_left _ hbo))
    omega)
 obtain ⟨W5, hW5⟩ : ∃ W5, W5 = w4.setCells n.p 2 ((asOf A n).cells v4) := ⟨_, rfl⟩
 rw [← hW5] at HTR HT4
 have HW5 := Lib.hid hW5
 have HINJ : Hid (∀ x ∈ T.L, x.p = n.p → x = n) := Lib.hid (fun x hx hxp => H.out.p_inj hx HN.out hxp)
 have HPN : Hid (∃ e ∈ updT { n with at_ := asOf A n, xv := v4 } T.L, e.p = n.p) := Lib.hid ⟨_, List.mem_map.2 ⟨n, HN.out, rfl⟩, by rw [if_pos rfl]⟩
 clear hx4 hf4 hb4 hq4 hnew OW hW5 HU
 go_wp2_with (first
  | (refine wpList_store_mid rfl AtT (.tmp 30) (.tmp 28) rfl n.p 2 ((asOf A n).cells v4).toArray rfl rfl HTH.out (infoAt _ _) HON.out ?_
     rw [show w4.setCells n.p 2 ((asOf A n).cells v4).toArray.toList = W5 from HW5.out.symm])
  | fail)
 refine (touch_row B W5 r { T with L := updT { n with at_ := asOf A n, xv := v4 } T.L } [n.p] 1 rfl (by simp) (by intro q hq; rw [List.mem_singleton] at hq; subst hq; exact HPN.out) (by have := HCL.out; show T.clock < _; omega) HTR.out).mono ?_
 rintro ex w6 ⟨rfl, ht6, hu6⟩
 have HT6 := Lib.hid ht6; have HU6 := Lib.hid hu6
 clear ht6 hu6
 go_wp2
 go_ret
 have hown : ownL (updT { n with at_ := asOf A n, xv := v4 } T.L) = ownL T.L := ownL_map (updT_facts HINJ.out rfl rfl rfl)
 have t1 : Turn (r :: ownL T.L) w W5 := (Turn.of_below (X := r :: ownL T.L) HB4.out).trans HT4.out (fun y hy => .inl (by simp at hy; subst hy; have := HPO.out; simp [this]))
 refine ⟨by rw [HC.out]; rfl, _, ⟨HT6.out, t1.trans HU6.out (fun y hy => .inl (by
  have hy : y ∈ r :: ownL (updT { n with at_ := asOf A n, xv := v4 } T.L) := hy
  rw [hown] at hy; exact hy)), fun b hb => ?_, ?_⟩, fun h => absurd HC.out h, fun _ => ⟨v4, rfl⟩⟩
 · rw [List.mem_append] at hb ⊢
   rcases hb with hb | hb
   · have hb : b ∈ ownL (tickT [n.p] _ (updT { n with at_ := asOf A n, xv := v4 } T.L)) := hb
     rw [own_tickT, hown] at hb
     exact .inl (.inl hb)
   · obtain ⟨x', hx', hb⟩ := List.mem_flatMap.1 hb
     have : ∃ x ∈ updT { n with at_ := asOf A n, xv := v4 } T.L, b ∈ xob x.at_.xs x.xv := by
      obtain ⟨x, hx, rfl | rfl⟩ := tickT_mem hx'
      · exact ⟨_, hx, hb⟩
      · exact ⟨x, hx, hb⟩
     obtain ⟨x, hx, hb⟩ := this
     obtain ⟨y, hy, rfl⟩ := List.mem_map.1 hx
     split at hb
     · exact .inr (HF4.out b hb)
     · exact .inl (.inr (List.mem_flatMap.2 ⟨y, hy, hb⟩))
 · exact .upd n { n with at_ := asOf A n, xv := v4 } HN.out ⟨rfl, rfl, rfl, rfl, rfl, rfl⟩ HCL.out HND.out HCK.out
def attrE (p : List UInt8) (A : XA) (T : Tr) : Int :=
 if splitE p ≠ 0 then 10 else match getT (splitL p) T.L with
  | none => 6
  | some n => chgE A n T
def AttrP (B : Nat) (w : World) (r : Nat) (T : Tr) (p : List UInt8) (A : XA) (e : Ending) (w' : World) : Prop :=
 e = .returned (.int .i64 (attrE p A T)) ∧ ∃ T', CallT B w r T w' T' ∧ (attrE p A T ≠ 0 → T' = T) ∧
   (attrE p A T = 0 → ∃ n xv, getT (splitL p) T.L = some n ∧ T' = { T with clock := T.clock + 1, L := tickT [n.p] ((T.clock + 1 : Nat) : Int) (updT { n with at_ := asOf A n, xv := xv } T.L) })
theorem attr_any (B : Nat) (w : World) (r : Nat) (T : Tr) (p : List UInt8) (hp : p.length ≤ 4611686018427387904) (A : XA) (v : Value) (hv : XsAt w v A.xs) (hD : ∀ e ∈ T.L, e.data.length ≤ 1048576) (hB : B ≤ w.heap.size) (h : TreeAt B w r T) :
 Calls Tryz.prog 28 #[ptr r, .string ⟨p.toArray⟩, .agg (A.cells v).toArray] w (AttrP B w r T p A) := by
 obtain ⟨W, hW⟩ : ∃ W, W = w.alloc (.cells (A.cells v).toArray AtT) := ⟨_, rfl⟩
 have hb0 : Below w.heap.size w W := by rw [hW]; exact (Below.refl _ _).alloc (Nat.le_refl _) _
 have hq0 : W.heap[w.heap.size]? = some (.cells (A.cells v).toArray AtT) := by rw [hW]; exact (MapKept.heap_alloc w _).1
 have FI := Lib.hid (find_any B W r T p hp (h.below hb0))
 have H := Lib.hid h; have HB0 := Lib.hid hb0; have HQ0 := Lib.hid hq0; have HW := Lib.hid hW; have HV := Lib.hid hv; have HD := Lib.hid hD; have HBS := Lib.hid hB
 clear h hb0 hq0 hW hv hD hB
 unfold ptr at *
 go_enter Tryz.func28, Tryz.ntmps28
 go_wp2_with fail
 change Calls _ _ _ (w.alloc (.cells (A.cells v).toArray AtT)) _
 rw [← HW.out]
 refine FI.out.mono ?_
 rintro ex w1 ⟨vl, rfl, hp1, hb1⟩
 have HB := Lib.hid (HB0.out.trans (hb1.mono HB0.out.size))
 have HQ1 : Hid (w1.heap[w.heap.size]? = some (.cells (A.cells v).toArray AtT)) := Lib.hid ((hb1.block _ (lt_of_heap HQ0.out)).trans HQ0.out)
 obtain ⟨la, lc, rfl⟩ := rowS_slice hp1.row
 clear FI hp1 hb1
 rw [findE, findN]
 rcases splitE_cases p with h0 | ⟨h0, _⟩
 case inr =>
  have hc : attrE p A T = 10 := by rw [attrE, if_pos (by rw [h0]; decide)]
  have HC := Lib.hid hc
  rw [if_neg (by rw [h0]; decide), if_neg (by rw [h0]; decide)]
  unfold ptrO
  clear h0 hc
  go_wp2
  go_ret
  exact ⟨by rw [HC.out]; rfl, T, .same H.out HB.out, fun _ => rfl, fun h => by rw [HC.out] at h; cases h⟩
 rw [if_pos h0, if_pos h0]
 have HE1 : Hid (attrE p A T = match getT (splitL p) T.L with
  | none => 6
  | some n => chgE A n T) := Lib.hid (by rw [attrE, if_neg (by rw [h0]; decide)])
 clear h0
 cases hg : getT (splitL p) T.L with
 | none =>
   have HC := Lib.hid (show attrE p A T = 6 by rw [HE1.out, hg])
   unfold ptrO
   clear hg HE1
   go_wp2
   go_ret
   exact ⟨by rw [HC.out]; rfl, T, .same H.out HB.out, fun _ => rfl, fun h => by rw [HC.out] at h; cases h⟩
 | some n =>
   have HC := Lib.hid (show attrE p A T = chgE A n T by rw [HE1.out, hg])
   have HG := Lib.hid hg
   obtain ⟨hn, _⟩ := getT_nm hg
   have hX1 := HV.out.kept HB.out.size (fun b hb => HB.out.block b (HV.out.lt b hb))
   have CH := change_any B w1 r T n hn A v hX1 (HD.out n hn) (Nat.le_trans HBS.out HB.out.size) (H.out.below HB.out)
   unfold ptr at CH
   have CH := Lib.hid CH
   unfold ptrO
   clear hg HE1 hn hX1
   go_wp2_with (first
    | (refine Sh.wpList_load_at (T := AtT) (cs := (A.cells v).toArray) HQ1.out rfl AtT (.tmp 5) rfl rfl _ Tryz.underlying79 rfl (infoAt _ _) ?_)
    | fail)
   refine CH.out.mono ?_
   rintro ex w2 ⟨rfl, T', hct, hno, hyes⟩
   have HCT := Lib.hid hct; have HNO := Lib.hid hno; have HYES := Lib.hid hyes
   clear hct hno hyes CH
   go_wp2
   go_ret
   refine ⟨by rw [HC.out]; rfl, T', ⟨HCT.out.tree, (Turn.of_below HB.out).trans HCT.out.turn (fun y hy => .inl hy), fun b hb => ?_, HCT.out.ch⟩, fun h => HNO.out (by rw [← HC.out]; exact h), fun h => ?_⟩
   · rcases HCT.out.own b hb with h1 | h1
     · exact .inl h1
     · exact .inr (Nat.le_trans HB.out.size h1)
   · obtain ⟨xv, h1⟩ := HYES.out (by rw [← HC.out]; exact h)
     exact ⟨n, xv, HG.out, h1⟩
end Go.Proofs.YtnkapojbijbbaaaGreatDoor.Sr
namespace Go.Proofs.YtnkapojbijbbaaaGreatDoor.Sr
open Go.RowKit Go.Maps Go.WideMaps Rf Go.Proofs.YtnkapojbijbbaaaGreatDoor.Nm St
def DeepOk (B r : Nat) (T : Tr) (e : TE) : Prop := ∀ (w : World), TreeAt B w r T →
 Calls Tryz.prog 66 #[ptr e.p] w fun x w' => x = .returned (.int .i64 (deepN T.L e.nm : Int)) ∧ Below w.heap.size w w'
theorem str_inv (key : Value) (kl : Lit) (h : keyOf Tryz.prog 9 key = some kl) : ∃ x, key = Value.string x := by
 obtain ⟨s, rfl, _⟩ := string_of_keyOf Tryz.underlying9 h
 exact ⟨s, rfl⟩
theorem held_inv (v : Value) (y : DataW Value × List MemPlace) (_h : Rv v = some y) : ∃ c, v = id c := ⟨v, rfl⟩
theorem deep_step (B r : Nat) (T : Tr) (hM : ∀ e ∈ T.L, e.nm.length ≤ 1000) (e : TE) (he : e ∈ T.L) (ih : ∀ x ∈ T.L, ∀ s, x.nm = e.nm ++ [s] → DeepOk B r T x) : DeepOk B r T e := by
 intro w h
 have mixed : Tryz.prog.follows Departure.mixedOrders = true := by kernel_rfl
 have H := Lib.hid h; have HE := Lib.hid he; have IH := Lib.hid ih; have HM := Lib.hid hM
 have c10 : w.cell? ⟨e.p, 10, none⟩ = some (mapV e.m) := cell_of_heap (h.node e he).cells
 have HDB : Hid (deepN T.L e.nm ≤ 1000) := Lib.hid (deepN_bound hM)
 clear ih hM
 unfold ptr at *
 cases hm : e.m with
 | none =>
   have hd : deepN T.L e.nm = 0 := Nat.le_zero.1 (deep_of h.parT (fun s ⟨x, hx, hxn⟩ => by
    obtain ⟨u, hu, h1, h2⟩ := h.par x hx _ _ hxn
    rw [srtT_inj h.srt hu he h1] at h2
    exact absurd hm h2))
   rw [hm] at c10
   have HD := Lib.hid hd
   unfold mapV at c10
   clear h he hd
   go_enter Tryz.func66, Tryz.ntmps66
   have hrn := run_range_nilMap (P := Tryz.prog) w 80 _ _ Tryz.underlying80
   have hnx := fun ty => run_next_nilMap (P := Tryz.prog) w ty 0 0 #[]
   go_wp2
   go_loopw [3] (fun v3 wr => v3 = .int .i64 0 ∧ wr = w.alloc (.mapIter none 0 #[] 0)) (fun _ _ => 0)
   case atStart => exact ⟨rfl, rfl⟩
   case round =>
    obtain ⟨rfl, rfl⟩ := hrel
    go_wp2
    go_ret
    rw [HD.out]
    exact ⟨rfl, (Below.refl _ _).alloc (Nat.le_refl _) _⟩
 | some b =>
   have HMP := Lib.hid ((h.node e he).kids b hm)
   rw [hm] at c10
   unfold mapV at c10
   have HBW : Hid (b < w.heap.size) := Lib.hid ((h.node e he).kids b hm).lt
   clear h he
   go_enter Tryz.func66, Tryz.ntmps66
   go_wp2_with (first
    | (at_range; refine wpList_range_own _ rfl _ 80 rfl 9 74 law Tryz.underlying80 Rv b 1000000 (toD ptr (kidsT T.L e.nm)) rfl HMP.out ?_; intro w0 hrg0 hg0 hs0)
    | go_in)
   go_frame
   have HB0 : Hid (Below w.heap.size w w0) := Lib.hid ((Below.refl _ w).grown hg0 (Nat.le_refl _) (by simp))
   have HRG0 := Lib.hid hrg0
   clear hrg0 hg0 hs0 c10
   go_loopw [3] (fun v3 wr => ∃ (left : Lit → Bool) (cnt : Nat) (most : Nat), v3 = .int .i64 (most : Int) ∧ Hid (wr.ranges Tryz.prog 9 Rv b w.heap.size 1000000 (toD ptr (kidsT T.L e.nm)) left cnt) ∧ Hid (most ≤ deepN T.L e.nm ∧ ∀ k, (getM (kidsT T.L e.nm) k).isSome = true → left (.string k) = false → 1 + deepN T.L (e.nm ++ [k]) ≤ most) ∧ Hid (Below w.heap.size w wr)) (fun _ wr => wr.rangeLeft b w.heap.size)
   case atStart =>
    refine ⟨_, _, 0, rfl, HRG0, Lib.hid ⟨Nat.zero_le _, fun k hk hl => ?_⟩, HB0⟩
    rw [toD_has, hk] at hl; cases hl
   case round =>
    obtain ⟨left, cnt, most, rfl, HR, HS, HB⟩ := hrel
    go_wp2_with (first
     | (at_next; refine wpList_next_ranges (α := ByteArray) (β := Value) _ rfl _ rfl 9 law Rv Value.string id str_inv held_inv b w.heap.size 1000000 _ _ _ (by first | rfl | simp [Act.eval, World.setCell]) HR.out ?_ ?_)
     | go_in)
    · intro _ hl0
      have hd : most = deepN T.L e.nm := Nat.le_antisymm HS.out.1 (deep_of H.out.parT (fun s ⟨x, hx, hxn⟩ => HS.out.2 s (by
       rw [kidsT_get H.out.srt]
       have := getT_of H.out.srt hx
       rw [hxn] at this
       rw [this]; rfl) (hl0 _)))
      subst hd
      clear hl0
      go_wp2
      go_ret
      exact ⟨rfl, HB.out⟩
    · intro x c kl yd yp w2 cnt1 hkey hlx hv hat hrg1 hlt hg1 hs1 hen
      obtain ⟨x', ex, ekl, hxl⟩ := string_of_keyOf Tryz.underlying9 hkey
      injection ex with ex
      subst ex
      subst ekl
      have hv2 : yd = .held c := by
       have := congrArg Prod.fst (Option.some.inj hv)
       exact this.symm
      subst hv2
      have hhas := has_true_of_atKey hat
      rw [toD_has] at hhas
      obtain ⟨q, hq⟩ := Option.isSome_iff_exists.1 hhas
      have hcn := hat (.held .nilIface)
      rw [toD_at, hq] at hcn
      injection hcn with hcn
      have hcn' : ptr q = c := hcn
      subst hcn'
      rw [kidsT_get H.out.srt] at hq
      obtain ⟨kn, hkn, rfl⟩ : ∃ kn, getT (e.nm ++ [x.data.toList]) T.L = some kn ∧ kn.p = q := by
       cases hg : getT (e.nm ++ [x.data.toList]) T.L with
       | none => rw [hg] at hq; cases hq
       | some kn => rw [hg] at hq; exact ⟨kn, rfl, Option.some.inj hq⟩
      obtain ⟨hkm, hknm⟩ := getT_nm hkn
      have hb2 : Below w.heap.size w w2 := HB.out.grown hg1 HB.out.size (fun y hy => by obtain rfl := Option.some.inj hy; exact Nat.le_refl _)
      have CL := IH.out kn hkm _ hknm w2 (H.out.below hb2)
      have hk1 : 1 + deepN T.L kn.nm ≤ deepN T.L e.nm := by rw [hknm]; exact deep_kid ⟨kn, hkm, hknm⟩
      have HB2 := Lib.hid hb2; have HRG := Lib.hid hrg1; have HLT := Lib.hid hlt
      have CL := Lib.hid CL
      have hd1 := HDB.out
      have hd2 : deepN T.L kn.nm ≤ 1000 := by omega
      have hms : most ≤ 1000 := Nat.le_trans HS.out.1 HDB.out
      have hwr : IntKind.i64.wrap (1 + (deepN T.L kn.nm : Int)) = 1 + (deepN T.L kn.nm : Int) := by rw [IntKind.wrap_i64]; omega
      have HK1 := Lib.hid hk1; have HKN := Lib.hid hknm
      have hrw : w.heap.size < w2.heap.size := hrg1.lt
      have HBL := Lib.hid (Nat.lt_of_lt_of_le HBW.out hb2.size)
      clear hv hat hhas hcn hq hkn hkm hknm hb2 hrg1 hlt hkey hlx hg1 hk1 hd1
      unfold ptr at CL hen ⊢
      try dsimp only [id] at hen ⊢
      go_wp2_with fail
      refine CL.out.mono ?_
      rintro ex w3 ⟨rfl, hb3⟩
      have HR3 : Hid (w3.ranges Tryz.prog 9 Rv b w.heap.size 1000000 (toD ptr (kidsT T.L e.nm)) (fun z => left z && !z.sameKey (.string x.data.toList)) cnt1) := Lib.hid (by
       obtain ⟨es, clock, since, seen, c0, h1, h2, h3, h4, h5, h6⟩ := HRG.out
       exact ⟨es, clock, since, seen, c0, (hb3.block b HBL.out).trans h1, h2, h3, h4, (hb3.block _ hrw).trans h5, h6⟩)
      have HB3 := Lib.hid (HB2.out.trans (hb3.mono HB2.out.size))
      clear hb3 CL
      go_wp2
      go_roundw
      case rel =>
       refine ⟨_, cnt1, max most (1 + deepN T.L kn.nm), ?_, HR3, Lib.hid ⟨Nat.max_le.2 ⟨HS.out.1, HK1.out⟩, fun k hk hl => ?_⟩, HB3⟩
       · go_num
       · simp only [Bool.and_eq_false_iff, Bool.not_eq_false', sameKey_string, beq_iff_eq] at hl
         rcases hl with hl | rfl
         · exact Nat.le_trans (HS.out.2 k hk hl) (Nat.le_max_left _ _)
         · rw [← HKN.out]; exact Nat.le_max_right _ _
      case measure =>
       rw [HR3.out.left_eq, HR.out.left_eq]; exact HLT.out
theorem deep_any (B r : Nat) (T : Tr) (hM : ∀ e ∈ T.L, e.nm.length ≤ 1000) : ∀ (k : Nat) (e : TE), e ∈ T.L → 1000 ≤ e.nm.length + k → DeepOk B r T e
 | 0, e, he, hk => deep_step B r T hM e he (fun x hx s hxn => by
    have h1 := hM x hx
    have h2 := congrArg List.length hxn
    rw [List.length_append] at h2
    simp at h2
    omega)
 | k + 1, e, he, hk => deep_step B r T hM e he (fun x hx s hxn => deep_any B r T hM k x hx (by
     have h2 := congrArg List.length hxn
     rw [List.length_append] at h2
     simp at h2
     omega))
end Go.Proofs.YtnkapojbijbbaaaGreatDoor.Sr
