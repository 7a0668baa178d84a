import Derived.Test.YtnmejonfdfdegaaGreatDoorZPSrAttr
import Derived.Test.YtnmejonfdfdegaaGreatDoorZPStEncode
import Derived.Deep.RegionLaw
import Derived.Test.YtnmejonfdfdegaaGreatDoorZPRowKit
import Derived.Test.YtnmejonfdfdegaaGreatDoorZPSrSort
set_option linter.unusedSimpArgs false
set_option linter.unusedVariables false
set_option maxHeartbeats 8000000
set_option maxRecDepth 100000
namespace Go.Proofs.YtnmejonfdfdegaaGreatDoor.Sr
open Go.RowKit Go.Maps Go.WideMaps Rf Go.Proofs.YtnmejonfdfdegaaGreatDoor.Nm St
open Lib (hid)
def putX (s d:List UInt8) (xs:Xs):Xs:=if seatB s xs then xs.set (seatN s xs) (s,d) else insX xs (seatN s xs) (s,d)
def xattrA (s d:List UInt8) (A:XA):XA:={A with xs:=putX s d A.xs}
theorem seat_name {s:List UInt8}:∀ {xs:Xs},seatB s xs=true→∃ x,xs[seatN s xs]? =some x∧x.1=s
 |[],h=>by cases h
 |x::r,h=>by
  rw[seatB] at h
  rw[seatN]
  split at h
  · next hl=>
    obtain⟨y,h1,h2⟩:=seat_name h
    exact⟨y,by rw[if_pos hl];simpa using h1,h2⟩
  · next hl=>exact ⟨x,by rw[if_neg hl];rfl,by simpa using h⟩
theorem xs_set {w:World} {C g cap:Nat} {xs:Xs} {s d:List UInt8} {i:Nat} (h:w.ownsRow C 123 2 (.slice (some ⟨g,0,none⟩) xs.length cap) xs.length (xcells xs)) (hl:∀ x∈xs,x.1.length≤maxLen∧x.2.length≤maxLen) (hd:d.length≤maxLen)
 {x:List UInt8×List UInt8} (hx:xs[i]? =some x) (hs:x.1=s):XsAt (w.setCell ⟨g,i*2+1,none⟩ (.string ⟨d.toArray⟩)) (.slice (some ⟨g,0,none⟩) xs.length cap) (xs.set i (s,d))∧w.cell? ⟨g,i*2+1,none⟩=some (.string ⟨x.2.toArray⟩)∧w.frozen? ⟨g,i*2+1,none⟩=false∧C≤g∧g < w.heap.size:=by
 have hi:=(List.getElem?_eq_some_iff.1 hx).1
 obtain⟨g',cap',hv,hlt,hC,_,hc⟩:=rowS_form h (by omega)
 obtain⟨rfl,rfl⟩:g=g'∧cap=cap':=by injection hv with e1 _ e3;injection e1 with e1;injection e1 with e1;exact⟨e1,e3⟩
 have hm:xs.length≤maxLen:=by
  rcases h with⟨_,⟨_,h0⟩|⟨g,cap,cur,_,_,_,h1,h2,_⟩⟩
  · rw[h0];exact Nat.zero_le _
  · exact Nat.le_trans h1 h2
 have hfz:w.frozen? ⟨g,i*2+1,none⟩=false:=by
  obtain⟨_,⟨h0,_⟩|⟨g2,_,_,hv2,_,hq,_⟩⟩:=h
  · cases h0
  · injection hv2 with e1 _ _;injection e1 with e1;injection e1 with e1
    subst e1;exact frozen_of_heap hq
 obtain⟨k1,k2⟩:=xcells_at hx
 refine⟨⟨some ⟨g,0,none⟩,cap,by rw[List.length_set],by rw[List.length_set];exact hm,fun y hy=>?_,fun _=>⟨g,0,rfl,by rw[World.size_setCell];exact hlt,fun j y hy=>?_⟩⟩,hc _ _ k2,hfz,hC,hlt⟩
 · rcases List.mem_or_eq_of_mem_set hy with h1|rfl
   · exact hl y h1
   · exact⟨by rw[←hs];exact(hl x (List.mem_of_getElem? hx)).1,hd⟩
 · rw[Nat.zero_add]
   by_cases hj:i=j
   · subst hj
     rw[List.getElem?_set_self hi] at hy
     obtain rfl:=Option.some.inj hy
     refine⟨?_,?_⟩
     · rw[World.cell?_setCell_other _ _ _ _ (by simp),hc _ _ k1,hs]
     · rw[World.cell?_setCell_same _ _ _ (hc _ _ k2)]
   · rw[List.getElem?_set_ne hj] at hy
     obtain⟨m1,m2⟩:=xcells_at hy
     rw[World.cell?_setCell_other _ _ _ _ (by intro e;injection e with _ e;omega),World.cell?_setCell_other _ _ _ _ (by intro e;injection e with _ e;omega)]
     exact⟨hc _ _ m1,hc _ _ m2⟩
def xattrE (p s d:List UInt8) (T:Tr):Int:=
 if splitE p≠0 then 10 else match getT (splitL p) T.L with
  |none=>6
  |some n=>chgE (xattrA s d n.at_) n T
def XatP (B:Nat) (w:World) (r:Nat) (T:Tr) (p s d:List UInt8) (e:Ending) (w':World):Prop:=
 e= .returned (.int .i64 (xattrE p s d T))∧∃ T',CallT B w r T w' T'∧(xattrE p s d T≠0→T'=T)∧
  (xattrE p s d T=0→∃ n xv,getT (splitL p) T.L=some n∧T'={T with clock:=T.clock+1,L:=tickT [n.p] ((T.clock+1:Nat):Int) (updT {n with at_:=xattrA s d n.at_,xv:=xv} T.L)})
theorem xattr_any (B:Nat) (w:World) (r:Nat) (T:Tr) (p s d:List UInt8) (hp:p.length≤4611686018427387904) (hs:s.length≤4611686018427387904) (hd:d.length≤4611686018427387904) (hD:∀ e∈T.L,e.data.length≤1048576) (hX:∀ e∈T.L,e.at_.xs.length≤16) (hB:B≤w.heap.size) (h:TreeAt B w r T):
 Calls Tryz.prog 48 #[ptr r,.string ⟨p.toArray⟩,.string ⟨s.toArray⟩,.string ⟨d.toArray⟩] w (XatP B w r T p s d):=by
 have FI:=hid (find_any B w r T p hp h)
 have H:=hid h;have HD:=hid hD;have HX:=hid hX;have HBS:=hid hB
 have HDL:Hid (d.length≤maxLen):=hid (by unfold maxLen;omega)
 clear h hD hX hB
 unfold ptr at*
 go_enter Tryz.func48,Tryz.ntmps48
 go_wp2_with fail
 refine FI.out.mono ?_
 rintro ex w1 ⟨vl,rfl,hp1,hb1⟩
 have HB:=hid hb1
 obtain⟨la,lc,rfl⟩:=rowS_slice hp1.row
 clear FI hp1 hb1
 rw[findE,findN]
 rcases splitE_cases p with h0|⟨h0,_⟩
 case inr=>
  have hc:xattrE p s d T=10:=by rw[xattrE,if_pos (by rw[h0];decide)]
  have HC:=hid hc
  rw[if_neg (by rw[h0];decide),if_neg (by rw[h0];decide)]
  unfold ptrO
  clear h0 hc
  go_wp2
  go_ret
  exact⟨by rw[HC.out];rfl,T,.same H.out HB.out,fun _=>rfl,fun h=>by rw[HC.out] at h;cases h⟩
 rw[if_pos h0,if_pos h0]
 have HE1:Hid (xattrE p s d T=match getT (splitL p) T.L with
  |none=>6
  |some n=>chgE (xattrA s d n.at_) n T):=hid (by rw[xattrE,if_neg (by rw[h0];decide)])
 clear h0
 cases hg:getT (splitL p) T.L with
 |none=>
  have HC:=hid (show xattrE p s d T=6 by rw[HE1.out,hg])
  unfold ptrO
  clear hg HE1
  go_wp2
  go_ret
  exact⟨by rw[HC.out];rfl,T,.same H.out HB.out,fun _=>rfl,fun h=>by rw[HC.out] at h;cases h⟩
 |some n=>
  have HC:=hid (show xattrE p s d T=chgE (xattrA s d n.at_) n T by rw[HE1.out,hg])
  have HG:=hid hg
  obtain⟨hn,_⟩:=getT_nm hg
  have HN:=hid hn
  have nd:=(H.out.below HB.out).node n hn
  have HRG:Hid (w1.rangeAt n.p 2 (n.at_.cells n.xv)):=hid (fun j u hj=>by
   rw[cell_of_heap nd.cells]
   have hjl:=(List.getElem?_eq_some_iff.1 hj).1
   rw[List.getElem?_toArray,Nat.add_comm 2 j,TE.cells,List.getElem?_cons_succ,List.getElem?_cons_succ,List.getElem?_append_left hjl]
   exact hj)
  have hxl:=HX.out n hn
  have hxb:=(nd.xs:XsAt w1 n.xv n.at_.xs)
  have OW:=hid (own_own w1 n.at_ n.xv hxb (by omega))
  unfold ptrO
  clear hg HE1 hn nd hxb
  go_wp2_with (first
   |(refine wpList_load_mid rfl _ _ rfl n.p 2 rfl (n.at_.cells n.xv) _ HRG.out Tryz.underlying79 rfl (by show _=some 7;kernel_rfl) ?_)
   |fail)
  refine OW.out.mono ?_
  rintro ex w2 ⟨v2,rfl,hx2,hf2,hb2,ho2⟩
  have HB2:=hid hb2;have HO2:=hid ho2
  have HGQ:=hid (rowS_lt ho2)
  have hv1:v2.oneCell'=true:=xs_one hx2
  have HX2:=hid hx2
  have ON:=hid (atOne n.at_ hv1)
  obtain⟨va,vc,rfl⟩:=rowS_slice ho2
  clear hx2 hf2 hb2 ho2 OW
  go_wp2_with (first
   |(refine wpList_store_new rfl rfl AtT (.tmp 12) (.tmp 29) rfl (n.at_.cells (.slice va n.at_.xs.length vc)).toArray rfl rfl (infoAt _ _) rfl ON.out ?_
     intro w3 hq3 hb3 hs3
     have HQ3:=hid hq3;have HB3:=hid hb3
     have c6:w3.cell? ⟨w2.heap.size,6,none⟩=some (.slice va n.at_.xs.length vc):=cell_of_heap hq3
     clear hq3 hb3 hs3)
   |fail)
  refine(seat_any w3 n.at_.xs _ s (HX2.out.kept HB3.out.size (fun b hb=>HB3.out.block b (HX2.out.lt b hb)))).mono ?_
  rintro ex w4 ⟨rfl,hb4⟩
  have HB4:=hid hb4
  have HQ4:Hid (w4.heap[w2.heap.size]? =some (.cells (n.at_.cells (.slice va n.at_.xs.length vc)).toArray AtT)):=hid ((hb4.block _ (lt_of_heap HQ3.out)).trans HQ3.out)
  have c6:w4.cell? ⟨w2.heap.size,6,none⟩=some (.slice va n.at_.xs.length vc):=cell_of_heap HQ4.out
  have HO4:=hid (rowS_kept HO2.out (fun b hb hl=>(hb4.block b (Nat.lt_of_lt_of_le hl HB3.out.size)).trans (HB3.out.block b hl)))
  have HB1:Hid (Below w.heap.size w w4):=hid (((HB.out.trans (HB2.out.mono HB.out.size)).trans (HB3.out.mono (Nat.le_trans HB.out.size HB2.out.size))).trans (hb4.mono (Nat.le_trans (Nat.le_trans HB.out.size HB2.out.size) HB3.out.size)))
  have HXL:Hid (∀ x∈n.at_.xs,x.1.length≤maxLen∧x.2.length≤maxLen):=hid (by obtain⟨_,_,_,_,hl,_⟩:=HX2.out;exact hl)
  clear hb4 HQ3
  cases hsb:seatB s n.at_.xs with
  |true=>
   obtain⟨x,hx,hxs⟩:=seat_name hsb
   have hpx:putX s d n.at_.xs=n.at_.xs.set (seatN s n.at_.xs) (s,d):=by rw[putX,if_pos hsb]
   obtain⟨i,hi⟩:∃ i,i=seatN s n.at_.xs:=⟨_,rfl⟩
   rw[←hi] at hx hpx ⊢
   have hil:i < n.at_.xs.length:=(List.getElem?_eq_some_iff.1 hx).1
   obtain⟨g,cap,hv,_,_,_,_⟩:=rowS_form HO4.out (by omega)
   obtain⟨rfl,rfl⟩:va=some ⟨g,0,none⟩∧vc=cap:=by injection hv with e1 _ e3;exact⟨e1,e3⟩
   obtain⟨k1,k2,k3,k4,k5⟩:=xs_set HO4.out HXL.out HDL.out hx hxs
   have hgq:g < w2.heap.size:=HGQ.out g (by simp[ob,Value.ownBlock])
   obtain⟨w5,hw5⟩:∃ w5,w5=w4.setCell ⟨g,i*2+1,none⟩ (.string ⟨d.toArray⟩):=⟨_,rfl⟩
   have HX5:Hid (XsAt w5 (.slice (some ⟨g,0,none⟩) n.at_.xs.length vc) (xattrA s d n.at_).xs):=hid (by show XsAt w5 _ (putX s d n.at_.xs);rw[hpx,hw5];exact k1)
   have HB5:Hid (Below w.heap.size w w5):=hid (by rw[hw5];exact HB1.out.setCell (Nat.le_trans HB.out.size k4) _)
   have HQ5:Hid (w5.heap[w2.heap.size]? =some (.cells (n.at_.cells (.slice (some ⟨g,0,none⟩) n.at_.xs.length vc)).toArray AtT)):=hid (by rw[hw5];exact(Below.heap_setCell _ _ _ _ (show w2.heap.size≠g by omega)).trans HQ4.out)
   have HQ6:Hid ((w4.setCell ⟨g,i*2+1,none⟩ (.string ⟨d.toArray⟩)).heap[w2.heap.size]? =some (.cells (n.at_.cells (.slice (some ⟨g,0,none⟩) n.at_.xs.length vc)).toArray AtT)):=hid (by rw[←hw5];exact HQ5.out)
   have HW5:=hid hw5
   clear hi hx hxs hpx hv k1 k4 k5 hgq hw5 hsb HO4 HXL HX2 HGQ
   go_wp2_with (first
    |(refine Sh.wpList_load_at (T:=AtT) (cs:=(n.at_.cells (.slice (some ⟨g,0,none⟩) n.at_.xs.length vc)).toArray) HQ6.out rfl AtT (.tmp 12) rfl rfl _ Tryz.underlying79 rfl (infoAt _ _) ?_)
    |fail)
   rw[←HW5.out]
   have CH:=change_any B w5 r T n HN.out (xattrA s d n.at_) (.slice (some ⟨g,0,none⟩) n.at_.xs.length vc) HX5.out (HD.out n HN.out) (Nat.le_trans HBS.out HB5.out.size) (H.out.below HB5.out)
   unfold ptr at CH
   have CH:=hid CH
   refine CH.out.mono ?_
   rintro ex w6 ⟨rfl,T',hct,hno,hyes⟩
   have HCT:=hid hct;have HNO:=hid hno;have HYES:=hid hyes
   clear hct hno hyes CH
   go_wp2
   go_ret
   refine⟨by rw[HC.out];rfl,T',⟨HCT.out.tree,(Turn.of_below HB5.out).trans HCT.out.turn (fun y hy=> .inl hy),fun b hb=>?_,HCT.out.ch⟩,fun h=>HNO.out (by rw[←HC.out];exact h),fun h=>?_⟩
   · rcases HCT.out.own b hb with h1|h1
     · exact .inl h1
     · exact .inr (Nat.le_trans HB5.out.size h1)
   · obtain⟨xv,h1⟩:=HYES.out (by rw[←HC.out];exact h)
     exact⟨n,xv,HG.out,h1⟩
  |false=>
   have hpx:putX s d n.at_.xs=insX n.at_.xs (seatN s n.at_.xs) (s,d):=by rw[putX,if_neg (by rw[hsb];decide)]
   have hil:=seatN_le s n.at_.xs
   obtain⟨i,hi⟩:∃ i,i=seatN s n.at_.xs:=⟨_,rfl⟩
   rw[←hi] at hpx hil ⊢
   have HIL:=hid hil
   have hbs:∀ w,(Instr.buildSlice 77 1 #[(0,.agg #[.string ⟨s.toArray⟩,.string ⟨d.toArray⟩])]).run Tryz.prog w= .ok (.slice (some ⟨w.heap.size,0,none⟩) 1 1) (w.alloc (.cells #[.string ⟨s.toArray⟩,.string ⟨d.toArray⟩] 123)):=fun w=>by
    obtain⟨i0,hi0,hz0,hz1,hz2⟩:=info_parts infoXa
    exact run_buildOneN 2 (by decide) (by decide) w _ _ i0 _ (xpair (s,d)) Tryz.underlying77 hi0 hz0 hz1 rfl
   obtain⟨w5,hw5⟩:∃ w5,w5=w4.alloc (.cells #[.string ⟨s.toArray⟩,.string ⟨d.toArray⟩] 123):=⟨_,rfl⟩
   have hvb5:w5.heap[w4.heap.size]? =some (.cells (xpair (s,d)).toArray 123):=by rw[hw5];exact(MapKept.heap_alloc w4 _).1
   have hb5:Below w4.heap.size w4 w5:=by rw[hw5];exact(Below.refl _ _).alloc (Nat.le_refl _) _
   have HXI:=hid (xins_any w1.heap.size w5 _ n.at_.xs i hil (s,d) (by omega) (rowS_kept HO4.out (fun b _ hl=>hb5.block b hl)) w4.heap.size hvb5 (fun hb=>Nat.lt_irrefl _ (rowS_lt HO4.out _ hb)) (by have:=HB2.out.size;have:=HB3.out.size;have:=lt_of_heap hvb5;have:=lt_of_heap HQ4.out;omega))
   have HQ5:Hid (w5.heap[w2.heap.size]? =some (.cells (n.at_.cells (.slice va n.at_.xs.length vc)).toArray AtT)):=hid ((hb5.block _ (lt_of_heap HQ4.out)).trans HQ4.out)
   have HB5:Hid (Below w.heap.size w w5):=hid (HB1.out.trans (hb5.mono HB1.out.size))
   have HL5:Hid (w2.heap.size < w5.heap.size):=hid (lt_of_heap HQ5.out)
   have HOG:=hid (rowS_ge HO2.out)
   have HW5:=hid hw5
   have HSL:Hid (s.length≤maxLen):=hid (by unfold maxLen;omega)
   have HPX:=hid hpx
   clear hi hil hsb hpx hw5 hvb5 hb5
   go_wp2_with fail
   rw[←HW5.out]
   refine HXI.out.mono ?_
   rintro ex w6 ⟨v6,rfl,ho6,ht6,hob6⟩
   have hq6:w6.heap[w2.heap.size]? =some (.cells (n.at_.cells (.slice va n.at_.xs.length vc)).toArray AtT):=(ht6.block _ HL5.out (fun hb=>Nat.lt_irrefl _ (HGQ.out _ hb))).trans HQ5.out
   have c7:w6.cell? ⟨w2.heap.size,6,none⟩=some (.slice va n.at_.xs.length vc):=cell_of_heap hq6
   have f7:w6.frozen? ⟨w2.heap.size,6,none⟩=false:=frozen_of_heap hq6
   obtain⟨w7,hw7⟩:∃ w7,w7=w6.setCell ⟨w2.heap.size,6,none⟩ v6:=⟨_,rfl⟩
   have hq7:w7.heap[w2.heap.size]? =some (.cells (n.at_.cells v6).toArray AtT):=by rw[hw7,setCell_heap _ _ _ _ _ _ hq6];rfl
   have hb6:Below w.heap.size w w6:=HB5.out.trans (ht6.below (fun b hb=>Nat.le_trans HB.out.size (HOG.out b hb)) HB5.out.size)
   have HB7:Hid (Below w.heap.size w w7):=hid (by rw[hw7];exact hb6.setCell (Nat.le_trans HB.out.size HB2.out.size) _)
   have hx6:XsAt w6 v6 (insX n.at_.xs i (s,d)):=(xs_of_own (by rw[insX_len _ HIL.out];exact ho6) (fun y hy=>by
    rcases List.mem_append.1 hy with h1|h1
    · exact HXL.out y (List.mem_of_mem_take h1)
    · rcases List.mem_cons.1 h1 with rfl|h1
      · exact⟨HSL.out,HDL.out⟩
      · exact HXL.out y (List.mem_of_mem_drop h1))).1
   have HX7:Hid (XsAt w7 v6 (xattrA s d n.at_).xs):=hid (by
    show XsAt w7 v6 (putX s d n.at_.xs)
    rw[HPX.out,hw7]
    refine hx6.kept (by rw[World.size_setCell];exact Nat.le_refl _) (fun b hb=>Below.heap_setCell _ _ _ _ ?_)
    have hbo:b∈ob v6:=by
     obtain⟨ya,yc,rfl,_,_,hbl⟩:=hx6
     cases hxs:insX n.at_.xs i (s,d) with
     |nil=>rw [hxs] at hb;simp[xob] at hb
     |cons y r=>
      obtain⟨b',o',rfl,_,_⟩:=hbl (by rw[hxs];simp)
      rw[hxs] at hb
      simpa [xob,ob,Value.ownBlock] using hb
    rcases hob6 b hbo with h1|h1
    · have:=HGQ.out b h1;show b≠w2.heap.size;omega
    · have:=HL5.out;show b≠w2.heap.size;omega)
   have HQ7:Hid ((w6.setCell ⟨w2.heap.size,6,none⟩ v6).heap[w2.heap.size]? =some (.cells (n.at_.cells v6).toArray AtT)):=hid (by rw[←hw7];exact hq7)
   have HW7:=hid hw7
   obtain⟨ya,yc,rfl⟩:=rowS_slice ho6
   have HIL2:=HIL
   clear ho6 ht6 hob6 hq6 hq7 hb6 hx6 hw7 hbs HXI HO4 HXL HX2 HGQ HOG c6
   go_wp2_with (first
    |(refine Sh.wpList_load_at (T:=AtT) (cs:=(n.at_.cells (.slice ya (n.at_.xs.length+1) yc)).toArray) HQ7.out rfl AtT (.tmp 12) rfl rfl _ Tryz.underlying79 rfl (infoAt _ _) ?_)
    |fail)
   rw[←HW7.out]
   have CH:=change_any B w7 r T n HN.out (xattrA s d n.at_) (.slice ya (n.at_.xs.length+1) yc) HX7.out (HD.out n HN.out) (Nat.le_trans HBS.out HB7.out.size) (H.out.below HB7.out)
   unfold ptr at CH
   have CH:=hid CH
   refine CH.out.mono ?_
   rintro ex w6 ⟨rfl,T',hct,hno,hyes⟩
   have HCT:=hid hct;have HNO:=hid hno;have HYES:=hid hyes
   clear hct hno hyes CH
   go_wp2
   go_ret
   refine⟨by rw[HC.out];rfl,T',⟨HCT.out.tree,(Turn.of_below HB7.out).trans HCT.out.turn (fun y hy=> .inl hy),fun b hb=>?_,HCT.out.ch⟩,fun h=>HNO.out (by rw[←HC.out];exact h),fun h=>?_⟩
   · rcases HCT.out.own b hb with h1|h1
     · exact .inl h1
     · exact .inr (Nat.le_trans HB7.out.size h1)
   · obtain⟨xv,h1⟩:=HYES.out (by rw[←HC.out];exact h)
     exact⟨n,xv,HG.out,h1⟩
def delX (xs:Xs) (i:Nat):Xs:=xs.take i++xs.drop (i+1)
theorem delX_len (xs:Xs) {i:Nat} (hi:i < xs.length):(delX xs i).length=xs.length - 1:=by
 rw[delX,List.length_append,List.length_take,List.length_drop];omega
theorem delX_cells (xs:Xs) {i:Nat} (hi:i < xs.length):xcells (delX xs i)=(xcells xs).take (i*2)++(xcells xs).drop ((i+1)*2):=by
 rw[delX,xcells_app,xcells_take xs (by omega),xcells_drop xs (by omega)]
theorem run_clear_two (w:World) (g o c:Nat) (ty:TypeId) (hc:∀ j,j < 2→(w.cell? ⟨g,o+j,none⟩).isSome=true) (hf:∀ j,j < 2→w.frozen? ⟨g,o+j,none⟩=false):
 (Builtin.clear_ #[77] ty #[.slice (some ⟨g,o,none⟩) 1 c]).run Tryz.prog w= .ok (.tuple #[]) (w.setCells g o [.string ⟨#[]⟩,.string ⟨#[]⟩]):=by
 obtain⟨i0,hi0,hz0,hz1,hz2⟩:=info_parts infoXa
 have hz:(Builtin.zeroCells (Value.agg #[.string ⟨#[]⟩,.string ⟨#[]⟩]).cells 1).toList=[.string ⟨#[]⟩,.string ⟨#[]⟩]:=by kernel_rfl
 have hst:=run_storeCells_cells (P:=Tryz.prog) g o [.string ⟨#[]⟩,.string ⟨#[]⟩] 0 w (by simpa using hc) (by simpa using hf) (by intro v hv;simp at hv;subst hv;rfl)
 simp only[Nat.add_zero] at hst
 simp[Builtin.clear_,run_underlying (P:=Tryz.prog) Tryz.underlying77,zeroValue,typeInfo,hi0,hz0,hz,hst]
def DelPost (C:Nat) (w:World) (v:Value) (xs:Xs) (i:Nat) (e:Ending) (w':World):Prop:=
 ∃ v',e= .returned v'∧w'.ownsRow C 123 2 v' (xs.length - 1) (xcells (delX xs i))∧Turn (ob v) w w'∧(∀ b∈ob v',b∈ob v)
theorem xdel_any (C:Nat) (w:World) (v:Value) (xs:Xs) (i:Nat) (hi:i < xs.length) (hl:xs.length≤1000) (hrow:w.ownsRow C 123 2 v xs.length (xcells xs)):
 Calls Tryz.prog 83 #[v,.int .i64 (i:Int),.int .i64 ((i:Int)+1)] w (DelPost C w v xs i):=by
 obtain⟨i0,hi0,hz0,hz1,hz2⟩:=info_parts infoXa
 obtain⟨_,⟨_,h0⟩|⟨g,cap,cur,rfl,hCg,hg,hnc,hcm,hsz,hcur⟩⟩:=hrow
 · omega
 obtain⟨n,hn⟩:∃ n,n=xs.length:=⟨_,rfl⟩
 obtain⟨X,hX⟩:∃ X,X=xcells xs:=⟨_,rfl⟩
 have hXl:X.length=n*2:=by rw[hX,hn];exact xcells_length xs
 have hXg:∀ j u,X[j]? =some u→w.cell? ⟨g,j,none⟩=some u:=fun j u hj=>by
  rw[hX,←hcur,List.getElem?_take] at hj
  split at hj
  · rw[cell_of_heap hg,←Array.getElem?_toList];exact hj
  · cases hj
 obtain⟨news,hnews⟩:∃ news,news=X.drop ((i+1)*2):=⟨_,rfl⟩
 have hnl:news.length=(n - (i+1))*2:=by rw[hnews,List.length_drop,hXl];omega
 have S1:Hid (news.length=(n - (i+1))*2):=hid hnl
 have S2:Hid (∀ u∈news,u.oneCell'=true):=hid (by rw[hnews,hX];exact fun u hu=>xcells_one xs u (List.mem_of_mem_drop hu))
 have hcell:∀ j,j < cap*2→(w.drew.cell? ⟨g,j,none⟩).isSome=true∧w.drew.frozen? ⟨g,j,none⟩=false:=fun j hj=>by
  refine⟨?_,frozen_of_heap (w:=w.drew) hg⟩
  rw[cell_of_heap (w:=w.drew) hg,Array.getElem?_eq_getElem (by rw[hsz];exact hj)];rfl
 have S3:Hid (∀ j,j < news.length→(w.drew.cell? ⟨g,0+i*2+j,none⟩).isSome=true∧w.drew.frozen? ⟨g,0+i*2+j,none⟩=false):=hid (fun j hj=>hcell _ (by omega))
 obtain⟨A,hA,hsrc⟩:∃ A:Addr,(if cap=i+1 then some (⟨g,0,none⟩:Addr) else some ⟨g,(i+1)*2,none⟩)=some A∧Hid (∀ t u,news[t]? =some u→w.drew.cell? (A.add t)=some u):=by
  by_cases h:cap=i+1
  · refine⟨⟨g,0,none⟩,by simp[h],hid (fun t u hu=>?_)⟩
    have h0:news.length=0:=by rw[hnl];omega
    rw[List.length_eq_zero_iff.1 h0] at hu
    simp at hu
  · refine⟨⟨g,(i+1)*2,none⟩,by simp[h],hid (fun t u hu=>?_)⟩
    rw[hnews,List.getElem?_drop] at hu
    rw[Addr.add_lit]
    exact hXg _ u hu
 obtain⟨W1,hW1⟩:∃ W1,W1=w.drew.setCells g (0+i*2) news:=⟨_,rfl⟩
 obtain⟨c1,hq1,hz1',hc1⟩:=heap_setCells news (0+i*2) w.drew _ hg (by rw[hnl,hsz];omega)
 rw[←hW1] at hq1
 have hc1l:c1.size=cap*2:=by rw[hz1',hsz]
 obtain⟨W2,hW2⟩:∃ W2,W2=W1.setCells g ((n - 1)*2) [.string ⟨#[]⟩,.string ⟨#[]⟩]:=⟨_,rfl⟩
 obtain⟨c2,hq2,hz2',hc2⟩:=heap_setCells [.string ⟨#[]⟩,.string ⟨#[]⟩] ((n - 1)*2) W1 _ hq1 (by rw[hc1l];show _+2≤_;omega)
 rw[←hW2] at hq2
 have hcl:∀ ty,(Builtin.clear_ #[77] ty #[.slice (some ⟨g,(n - 1)*2,none⟩) 1 (cap - (n - 1))]).run Tryz.prog W1= .ok (.tuple #[]) W2:=fun ty=>by
  rw[hW2]
  exact run_clear_two W1 g ((n - 1)*2) _ ty (fun j hj=>by rw[cell_of_heap hq1,Array.getElem?_eq_getElem (by rw[hc1l];omega)];rfl) (fun j hj=>frozen_of_heap hq1)
 have HF:Hid (DelPost C w (.slice (some ⟨g,0,none⟩) n cap) xs i (.returned (.slice (some ⟨g,0,none⟩) (n - 1) cap)) W2):=hid (by
  refine⟨_,rfl,⟨by rw[xcells_length,delX_len xs hi],.inr ⟨g,cap,c2,by rw[hn],hCg,hq2,by omega,hcm,by rw[hz2',hc1l],?_⟩⟩,?_,fun b hb=>hb⟩
  · have hXt:cur.toList.take (0+i*2)=X.take (i*2):=by rw[hX,←hcur,List.take_take,Nat.zero_add];congr 1;omega
    have e1:c1.toList.take ((n - 1)*2)=X.take (i*2)++news:=by
     rw[hc1,hXt,List.take_left' (by rw[List.length_append,hnl,List.length_take,hXl];omega)]
    rw[delX_cells xs hi,←hX,←hnews,←hn,hc2,List.append_assoc,List.take_append_of_le_length (by rw[List.length_take,Array.length_toList,hc1l];omega),List.take_take,Nat.min_self,e1]
  · rw[hW2,hW1]
    exact(((Turn.refl _ w).drew).trans (turn_setCells _ _ _ _) (fun y hy=> .inl (by simpa [ob,Value.ownBlock] using hy))).trans (turn_setCells _ _ _ _) (fun y hy=> .inl (by simpa [ob,Value.ownBlock] using hy)))
 have HW1:=hid hW1
 have mixed:Tryz.prog.follows .mixedOrders=true:=by kernel_rfl
 have hik:(i:Int)≠(i:Int)+1:=by omega
 have htn:((i:Int)+1).toNat=i+1:=by omega
 have hin:i+1≤n:=by omega
 have hb1:(0:Int)≤(i:Int)+1:=by omega
 have hb3:(i:Int)+1≤(n:Int):=by omega
 have hii:i≤cap:=by omega
 have hij:i+1≤cap:=by omega
 have hcn:n≤cap:=by omega
 unfold maxLen at hcm
 have hk:i+(n - (i+1))=n - 1:=by omega
 have hk1:n - (n - 1)=1:=by omega
 have hcl1:∀ ty,(Builtin.clear_ #[77] ty #[.slice (some ⟨g,(i+(n - (i+1)))*2,none⟩) (n - (i+(n - (i+1)))) (cap - (i+(n - (i+1))))]).run Tryz.prog W1= .ok (.tuple #[]) W2:=fun ty=>by rw[hk,hk1];exact hcl ty
 have HF2:Hid (DelPost C w (.slice (some ⟨g,0,none⟩) n cap) xs i (.returned (.slice (some ⟨g,0,none⟩) (i+(n - (i+1))) cap)) W2):=hid (by rw[hk];exact HF.out)
 rw[←hn] at hl ⊢
 clear HF hk hk1 hX hg hq1 hq2 hc1 hc2 hz1' hz2' hW1 hW2 hcur hXg hnl hnews hcell hXl hcl hsz hn hi hnc hc1l
 go_enter Tryz.func83,Tryz.ntmps83
 go_wp2_with fail
 go_region_law_o (refine step_append_room rfl (.tmp 22) (.tmp 25) 77 rfl 123 i0 2 Tryz.underlying77 hi0 hz1 g 0 i cap (by simp[Act.eval,Act.put]) A (n - (i+1)) (cap - (i+1)) news (by simp[Act.eval,Act.put]) S1.out hsrc.out S2.out (by omega) S3.out ?_;rw[←HW1.out])
 go_wp2
 go_ret
 exact HF2.out
def clearA (s:List UInt8) (A:XA):XA:={A with xs:=delX A.xs (seatN s A.xs)}
def clearE (p s:List UInt8) (T:Tr):Int:=
 if splitE p≠0 then 10 else match getT (splitL p) T.L with
  |none=>6
  |some n=>if seatB s n.at_.xs=false then 6 else chgE (clearA s n.at_) n T
def ClrP (B:Nat) (w:World) (r:Nat) (T:Tr) (p s:List UInt8) (e:Ending) (w':World):Prop:=
 e= .returned (.int .i64 (clearE p s T))∧∃ T',CallT B w r T w' T'∧(clearE p s T≠0→T'=T)∧
  (clearE p s T=0→∃ n xv,getT (splitL p) T.L=some n∧seatB s n.at_.xs=true∧T'={T with clock:=T.clock+1,L:=tickT [n.p] ((T.clock+1:Nat):Int) (updT {n with at_:=clearA s n.at_,xv:=xv} T.L)})
theorem clear_any (B:Nat) (w:World) (r:Nat) (T:Tr) (p s:List UInt8) (hp:p.length≤4611686018427387904) (_:s.length≤4611686018427387904) (hD:∀ e∈T.L,e.data.length≤1048576) (hX:∀ e∈T.L,e.at_.xs.length≤16) (hB:B≤w.heap.size) (h:TreeAt B w r T):
 Calls Tryz.prog 50 #[ptr r,.string ⟨p.toArray⟩,.string ⟨s.toArray⟩] w (ClrP B w r T p s):=by
 have FI:=hid (find_any B w r T p hp h)
 have H:=hid h;have HD:=hid hD;have HX:=hid hX;have HBS:=hid hB
 clear h hD hX hB
 unfold ptr at*
 go_enter Tryz.func50,Tryz.ntmps50
 go_wp2_with fail
 refine FI.out.mono ?_
 rintro ex w1 ⟨vl,rfl,hp1,hb1⟩
 have HB:=hid hb1
 obtain⟨la,lc,rfl⟩:=rowS_slice hp1.row
 clear FI hp1 hb1
 rw[findE,findN]
 rcases splitE_cases p with h0|⟨h0,_⟩
 case inr=>
  have hc:clearE p s T=10:=by rw[clearE,if_pos (by rw[h0];decide)]
  have HC:=hid hc
  rw[if_neg (by rw[h0];decide),if_neg (by rw[h0];decide)]
  unfold ptrO
  clear h0 hc
  go_wp2
  go_ret
  exact⟨by rw[HC.out];rfl,T,.same H.out HB.out,fun _=>rfl,fun h=>by rw[HC.out] at h;cases h⟩
 rw[if_pos h0,if_pos h0]
 have HE1:Hid (clearE p s T=match getT (splitL p) T.L with
  |none=>6
  |some n=>(if seatB s n.at_.xs=false then 6 else chgE (clearA s n.at_) n T)):=hid (by rw[clearE,if_neg (by rw[h0];decide)])
 clear h0
 cases hg:getT (splitL p) T.L with
 |none=>
  have HC:=hid (show clearE p s T=6 by rw[HE1.out,hg])
  unfold ptrO
  clear hg HE1
  go_wp2
  go_ret
  exact⟨by rw[HC.out];rfl,T,.same H.out HB.out,fun _=>rfl,fun h=>by rw[HC.out] at h;cases h⟩
 |some n=>
  have HC:=hid (show clearE p s T=(if seatB s n.at_.xs=false then 6 else chgE (clearA s n.at_) n T) by rw[HE1.out,hg])
  have HG:=hid hg
  obtain⟨hn,_⟩:=getT_nm hg
  have HN:=hid hn
  have nd:=(H.out.below HB.out).node n hn
  have HRG:Hid (w1.rangeAt n.p 2 (n.at_.cells n.xv)):=hid (fun j u hj=>by
   rw[cell_of_heap nd.cells]
   have hjl:=(List.getElem?_eq_some_iff.1 hj).1
   rw[List.getElem?_toArray,Nat.add_comm 2 j,TE.cells,List.getElem?_cons_succ,List.getElem?_cons_succ,List.getElem?_append_left hjl]
   exact hj)
  have hxl:=HX.out n hn
  have hxb:=(nd.xs:XsAt w1 n.xv n.at_.xs)
  have OW:=hid (own_own w1 n.at_ n.xv hxb (by omega))
  unfold ptrO
  clear hg HE1 hn nd hxb
  go_wp2_with (first
   |(refine wpList_load_mid rfl _ _ rfl n.p 2 rfl (n.at_.cells n.xv) _ HRG.out Tryz.underlying79 rfl (by show _=some 7;kernel_rfl) ?_)
   |fail)
  refine OW.out.mono ?_
  rintro ex w2 ⟨v2,rfl,hx2,hf2,hb2,ho2⟩
  have HB2:=hid hb2;have HO2:=hid ho2
  have HGQ:=hid (rowS_lt ho2)
  have hv1:v2.oneCell'=true:=xs_one hx2
  have HX2:=hid hx2
  have ON:=hid (atOne n.at_ hv1)
  obtain⟨va,vc,rfl⟩:=rowS_slice ho2
  clear hx2 hf2 hb2 ho2 OW
  go_wp2_with (first
   |(refine wpList_store_new rfl rfl AtT (.tmp 10) (.tmp 27) rfl (n.at_.cells (.slice va n.at_.xs.length vc)).toArray rfl rfl (infoAt _ _) rfl ON.out ?_
     intro w3 hq3 hb3 hs3
     have HQ3:=hid hq3;have HB3:=hid hb3
     have c6:w3.cell? ⟨w2.heap.size,6,none⟩=some (.slice va n.at_.xs.length vc):=cell_of_heap hq3
     clear hq3 hb3 hs3)
   |fail)
  refine(seat_any w3 n.at_.xs _ s (HX2.out.kept HB3.out.size (fun b hb=>HB3.out.block b (HX2.out.lt b hb)))).mono ?_
  rintro ex w4 ⟨rfl,hb4⟩
  have HB4:=hid hb4
  have HQ4:Hid (w4.heap[w2.heap.size]? =some (.cells (n.at_.cells (.slice va n.at_.xs.length vc)).toArray AtT)):=hid ((hb4.block _ (lt_of_heap HQ3.out)).trans HQ3.out)
  have c6:w4.cell? ⟨w2.heap.size,6,none⟩=some (.slice va n.at_.xs.length vc):=cell_of_heap HQ4.out
  have HO4:=hid (rowS_kept HO2.out (fun b hb hl=>(hb4.block b (Nat.lt_of_lt_of_le hl HB3.out.size)).trans (HB3.out.block b hl)))
  have HB1:Hid (Below w.heap.size w w4):=hid (((HB.out.trans (HB2.out.mono HB.out.size)).trans (HB3.out.mono (Nat.le_trans HB.out.size HB2.out.size))).trans (hb4.mono (Nat.le_trans (Nat.le_trans HB.out.size HB2.out.size) HB3.out.size)))
  have HXL:Hid (∀ x∈n.at_.xs,x.1.length≤maxLen∧x.2.length≤maxLen):=hid (by obtain⟨_,_,_,_,hl,_⟩:=HX2.out;exact hl)
  clear hb4 HQ3
  cases hsb:seatB s n.at_.xs with
  |false=>
   have HC2:=hid (show clearE p s T=6 by rw[HC.out,if_pos hsb])
   clear hsb c6
   go_wp2
   go_ret
   exact⟨by rw[HC2.out];rfl,T,.same H.out HB1.out,fun _=>rfl,fun h=>by rw[HC2.out] at h;cases h⟩
  |true=>
   have HSB:=hid hsb
   have HC2:=hid (show clearE p s T=chgE (clearA s n.at_) n T by rw[HC.out,if_neg (by rw[hsb];decide)])
   have hil:=seatB_lt hsb
   have hpx:(clearA s n.at_).xs=delX n.at_.xs (seatN s n.at_.xs):=rfl
   obtain⟨i,hi⟩:∃ i,i=seatN s n.at_.xs:=⟨_,rfl⟩
   rw[←hi] at hil hpx ⊢
   have HIL:=hid hil
   have hil2:(i:Int) < (n.at_.xs.length:Int):=by omega
   have HXI:=hid (xdel_any w1.heap.size w4 _ n.at_.xs i hil (by omega) HO4.out)
   have HL5:Hid (w2.heap.size < w4.heap.size):=hid (lt_of_heap HQ4.out)
   have HOG:=hid (rowS_ge HO2.out)
   have HPX:=hid hpx
   clear hi hsb hpx hil
   go_wp2_with fail
   refine HXI.out.mono ?_
   rintro ex w6 ⟨v6,rfl,ho6,ht6,hob6⟩
   have hq6:w6.heap[w2.heap.size]? =some (.cells (n.at_.cells (.slice va n.at_.xs.length vc)).toArray AtT):=(ht6.block _ HL5.out (fun hb=>Nat.lt_irrefl _ (HGQ.out _ hb))).trans HQ4.out
   have c7:w6.cell? ⟨w2.heap.size,6,none⟩=some (.slice va n.at_.xs.length vc):=cell_of_heap hq6
   have f7:w6.frozen? ⟨w2.heap.size,6,none⟩=false:=frozen_of_heap hq6
   obtain⟨w7,hw7⟩:∃ w7,w7=w6.setCell ⟨w2.heap.size,6,none⟩ v6:=⟨_,rfl⟩
   have hq7:w7.heap[w2.heap.size]? =some (.cells (n.at_.cells v6).toArray AtT):=by rw[hw7,setCell_heap _ _ _ _ _ _ hq6];rfl
   have hb6:Below w.heap.size w w6:=HB1.out.trans (ht6.below (fun b hb=>Nat.le_trans HB.out.size (HOG.out b hb)) HB1.out.size)
   have HB7:Hid (Below w.heap.size w w7):=hid (by rw[hw7];exact hb6.setCell (Nat.le_trans HB.out.size HB2.out.size) _)
   have hx6:XsAt w6 v6 (delX n.at_.xs i):=(xs_of_own (by rw[delX_len _ HIL.out];exact ho6) (fun y hy=>by
    rcases List.mem_append.1 hy with h1|h1
    · exact HXL.out y (List.mem_of_mem_take h1)
    · exact HXL.out y (List.mem_of_mem_drop h1))).1
   have HX7:Hid (XsAt w7 v6 (clearA s n.at_).xs):=hid (by
    rw[HPX.out,hw7]
    refine hx6.kept (by rw[World.size_setCell];exact Nat.le_refl _) (fun b hb=>Below.heap_setCell _ _ _ _ ?_)
    have hbo:b∈ob v6:=by
     obtain⟨ya,yc,rfl,_,_,hbl⟩:=hx6
     cases hxs:delX n.at_.xs i with
     |nil=>rw [hxs] at hb;simp[xob] at hb
     |cons y r=>
      obtain⟨b',o',rfl,_,_⟩:=hbl (by rw[hxs];simp)
      rw[hxs] at hb
      simpa [xob,ob,Value.ownBlock] using hb
    have:=HGQ.out b (hob6 b hbo);show b≠w2.heap.size;omega)
   have HQ7:Hid ((w6.setCell ⟨w2.heap.size,6,none⟩ v6).heap[w2.heap.size]? =some (.cells (n.at_.cells v6).toArray AtT)):=hid (by rw[←hw7];exact hq7)
   have HW7:=hid hw7
   obtain⟨ya,yc,rfl⟩:=rowS_slice ho6
   clear ho6 ht6 hob6 hq6 hq7 hb6 hx6 hw7 HXI HO4 HXL HX2 HGQ HOG c6 hil2
   go_wp2_with (first
    |(refine Sh.wpList_load_at (T:=AtT) (cs:=(n.at_.cells (.slice ya (n.at_.xs.length - 1) yc)).toArray) HQ7.out rfl AtT (.tmp 10) rfl rfl _ Tryz.underlying79 rfl (infoAt _ _) ?_)
    |fail)
   rw[←HW7.out]
   have CH:=change_any B w7 r T n HN.out (clearA s n.at_) (.slice ya (n.at_.xs.length - 1) yc) HX7.out (HD.out n HN.out) (Nat.le_trans HBS.out HB7.out.size) (H.out.below HB7.out)
   unfold ptr at CH
   have CH:=hid CH
   refine CH.out.mono ?_
   rintro ex w6 ⟨rfl,T',hct,hno,hyes⟩
   have HCT:=hid hct;have HNO:=hid hno;have HYES:=hid hyes
   clear hct hno hyes CH
   go_wp2
   go_ret
   refine⟨by rw[HC2.out];rfl,T',⟨HCT.out.tree,(Turn.of_below HB7.out).trans HCT.out.turn (fun y hy=> .inl hy),fun b hb=>?_,HCT.out.ch⟩,fun h=>HNO.out (by rw[←HC2.out];exact h),fun h=>?_⟩
   · rcases HCT.out.own b hb with h1|h1
     · exact .inl h1
     · exact .inr (Nat.le_trans HB7.out.size h1)
   · obtain⟨xv,h1⟩:=HYES.out (by rw[←HC2.out];exact h)
     exact⟨n,xv,HG.out,HSB.out,h1⟩
end Go.Proofs.YtnmejonfdfdegaaGreatDoor.Sr
namespace Go.Proofs.YtnmejonfdfdegaaGreatDoor.St
open Go.RowKit Go.Maps Go.WideMaps Rf Rd
structure It where
 path:List UInt8
 node:UInt8
 size:Int
 ino:Nat
 tick:Int
 kind:UInt8
 idt:List UInt8
instance:Inhabited It:=⟨⟨[],0,0,0,0,0,[]⟩⟩
structure It.Fits (x:It):Prop where
 path:x.path.length≤140737488355328
 size: -9223372036854775808≤x.size∧x.size < 9223372036854775808
 ino:x.ino < 18446744073709551616
 tick: -9223372036854775808≤x.tick∧x.tick < 9223372036854775808
 idt:x.idt.length≤140737488355328
def It.cells (x:It):List Value:=[.string ⟨x.path.toArray⟩,.int .u8 (x.node.toNat:Int),.int .i64 x.size,.int .u64 (x.ino:Int),.int .i64 x.tick,.int .u8 (x.kind.toNat:Int),.string ⟨x.idt.toArray⟩]
end Go.Proofs.YtnmejonfdfdegaaGreatDoor.St
