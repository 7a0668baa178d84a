import Derived.Test.YtnmejonfdfdegaaGreatDoorZPZz
import Derived.Test.YtnmejonfdfdegaaGreatDoorZPSrNew
import Derived.Test.YtnmejonfdfdegaaGreatDoorZPStEncode
import Derived.Test.YtnmejonfdfdegaaGreatDoorZPSrOwn
import Derived.WalkLawsBesides
import Derived.Test.YtnmejonfdfdegaaGreatDoorZPSrSort
import Derived.Lib.Overlaps
import Derived.Lib.AppendZerosOnto
import Derived.Laws.Externs
import Derived.Laws.CopyRow
set_option linter.unusedSimpArgs false
set_option linter.unusedVariables false
set_option maxHeartbeats 8000000
set_option maxRecDepth 100000
namespace Go.Proofs.YtnmejonfdfdegaaGreatDoor.Sr
open Go.RowKit Go.Maps Go.WideMaps Rf Go.Proofs.YtnmejonfdfdegaaGreatDoor.Nm St
open Lib (hid)
def asOf (A:XA) (n:TE):XA:={A with node:=n.at_.node,target:=n.at_.target}
def chgE (A:XA) (n:TE) (T:Tr):Int:=if chkA (asOf A n)=false then 1 else if 1099511627776≤T.clock then 3 else 0
def ChgP (B:Nat) (w:World) (r:Nat) (T:Tr) (A:XA) (n:TE) (e:Ending) (w':World):Prop:=
 e= .returned (.int .i64 (chgE A n T))∧∃ T',CallT B w r T w' T'∧(chgE A n T≠0→T'=T)∧
  (chgE A n T=0→∃ xv,T'={T with clock:=T.clock+1,L:=tickT [n.p] ((T.clock+1:Nat):Int) (updT {n with at_:=asOf A n,xv:=xv} T.L)})
theorem change_any (B:Nat) (w:World) (r:Nat) (T:Tr) (n:TE) (hn:n∈T.L) (A:XA) (v:Value) (hv:XsAt w v A.xs) (hnd:n.data.length≤1048576) (hB:B≤w.heap.size) (h:TreeAt B w r T):
 Calls Tryz.prog 67 #[ptr r,ptr n.p,.agg (A.cells v).toArray] w (ChgP B w r T A n):=by
 obtain⟨W,hW⟩:∃ W,W=w.alloc (.cells (A.cells v).toArray AtT):=⟨_,rfl⟩
 have hb0:Below w.heap.size w W:=by rw[hW];exact(Below.refl _ _).alloc (Nat.le_refl _) _
 have hq0:W.heap[w.heap.size]? =some (.cells (A.cells v).toArray AtT):=by rw[hW];exact(MapKept.heap_alloc w _).1
 have hlw:n.p < w.heap.size:=h.lt n.p (by have:=ownL_mem hn;simp[this])
 have q2:=(h.below hb0).node n hn
 have c2:W.drew.cell? ⟨n.p,2,none⟩=some (.int .u8 (n.at_.node:Int)):=cell_of_heap q2.cells
 have c7:W.drew.cell? ⟨n.p,7,none⟩=some (.string ⟨n.at_.target.toArray⟩):=cell_of_heap q2.cells
 obtain⟨WA,hWA⟩:∃ WA,WA=(w.alloc (.cells ((A.cells v).set 0 (.int .u8 (n.at_.node:Int))).toArray AtT)).drew:=⟨_,rfl⟩
 obtain⟨WB,hWB⟩:∃ WB,WB=(w.alloc (.cells (((A.cells v).set 0 (.int .u8 (n.at_.node:Int))).set 5 (.string ⟨n.at_.target.toArray⟩)).toArray AtT)).drew:=⟨_,rfl⟩
 have hqB:WB.heap[w.heap.size]? =some (.cells ((asOf A n).cells v).toArray AtT):=by rw[hWB];exact(MapKept.heap_alloc w _).1
 have hbA:Below w.heap.size w WA:=by rw[hWA];exact((Below.refl _ _).alloc (Nat.le_refl _) _).drew
 have hbB:Below w.heap.size w WB:=by rw[hWB];exact((Below.refl _ _).alloc (Nat.le_refl _) _).drew
 have cA2:WA.cell? ⟨n.p,2,none⟩=some (.int .u8 (n.at_.node:Int)):=cell_of_heap ((h.below hbA).node n hn).cells
 have cA7:WA.cell? ⟨n.p,7,none⟩=some (.string ⟨n.at_.target.toArray⟩):=cell_of_heap ((h.below hbA).node n hn).cells
 have HS0:Hid ((w.alloc (.cells (A.cells v).toArray AtT)).drew.cell? ⟨n.p,2,none⟩=some (.int .u8 (n.at_.node:Int))∧(w.alloc (.cells (A.cells v).toArray AtT)).drew.cell? ⟨n.p,7,none⟩=some (.string ⟨n.at_.target.toArray⟩)):=hid (by rw[←hW];exact⟨c2,c7⟩)
 have HSA:Hid ((w.alloc (.cells ((A.cells v).set 0 (.int .u8 (n.at_.node:Int))).toArray AtT)).drew.cell? ⟨n.p,2,none⟩=some (.int .u8 (n.at_.node:Int))∧(w.alloc (.cells ((A.cells v).set 0 (.int .u8 (n.at_.node:Int))).toArray AtT)).drew.cell? ⟨n.p,7,none⟩=some (.string ⟨n.at_.target.toArray⟩)):=hid (by rw[←hWA];exact⟨cA2,cA7⟩)
 have HSB:Hid ((w.alloc (.cells (((A.cells v).set 0 (.int .u8 (n.at_.node:Int))).set 5 (.string ⟨n.at_.target.toArray⟩)).toArray AtT)).drew.cell? ⟨n.p,2,none⟩=some (.int .u8 (n.at_.node:Int))∧(w.alloc (.cells (((A.cells v).set 0 (.int .u8 (n.at_.node:Int))).set 5 (.string ⟨n.at_.target.toArray⟩)).toArray AtT)).drew.cell? ⟨n.p,7,none⟩=some (.string ⟨n.at_.target.toArray⟩)):=hid (by
  rw[←hWB]
  exact⟨cell_of_heap ((h.below hbB).node n hn).cells,cell_of_heap ((h.below hbB).node n hn).cells⟩)
 have kb0:(w.alloc (.cells (A.cells v).toArray AtT)).drew.cell? ⟨w.heap.size,0,none⟩=some (.int .u8 (A.node:Int)):=by rw[←hW];exact cell_of_heap hq0
 have fb0:(w.alloc (.cells (A.cells v).toArray AtT)).drew.frozen? ⟨w.heap.size,0,none⟩=false:=by rw[←hW];exact frozen_of_heap hq0
 have hXB:XsAt WB v (asOf A n).xs:=hv.kept hbB.size (fun b hb=>hbB.block b (hv.lt b hb))
 have CH:=chk_any WB (asOf A n) v hXB
 have H:=hid h;have HBB:=hid hbB;have HQB:=hid hqB;have HWB:=hid hWB;have HWA:=hid hWA;have HXB:=hid hXB;have HN:=hid hn;have HND:=hid hnd;have HBS:=hid hB
 have HWW:=hid hW
 have HLW:Hid (w.heap.size < WB.heap.size):=hid (lt_of_heap hqB)
 clear h hb0 hq0 q2 c2 c7 hqB hbA hbB cA2 cA7 hXB hn hnd hB hv hW HWA
 unfold ptr at*
 go_enter Tryz.func67,Tryz.ntmps67
 go_wp2_with fail
 refine wp_region_held_drew (S:=(fun w':World=>w'.cell? ⟨n.p,2,none⟩=some (.int .u8 (n.at_.node:Int))∧w'.cell? ⟨n.p,7,none⟩=some (.string ⟨n.at_.target.toArray⟩))) (by kernel_rfl) HS0.out (fun zh=>?_)
 iterate 11
  first|refine' tj 0 rfl rfl (fun _ _ _ h=>h) ?_ zh ?_|refine' tj 1 rfl rfl (fun _ _ _ h=>h) ?_ zh ?_|refine' tj 2 rfl rfl (fun _ _ _ h=>h) ?_ zh ?_|refine' tj 3 rfl rfl (fun _ _ _ h=>h) ?_ zh ?_|refine' tj 4 rfl rfl (fun _ _ _ h=>h) ?_ zh ?_|refine' tj 5 rfl rfl (fun _ _ _ h=>h) ?_ zh ?_|refine' tj 6 rfl rfl (fun _ _ _ h=>h) ?_ zh ?_|refine' tj 7 rfl rfl (fun _ _ _ h=>h) ?_ zh ?_|refine' tj 8 rfl rfl (fun _ _ _ h=>h) ?_ zh ?_|refine' tj 9 rfl rfl (fun _ _ _ h=>h) ?_ zh ?_|refine' tj 10 rfl rfl (fun _ _ _ h=>h) ?_ zh ?_
  rotate_left
  · intro wS hS;obtain⟨k0,k1⟩:=hS;go_simp;try rfl
  try simp only[Act.put,zA,zB,zC,zD,zE,zF]
 refine wpAnyH_ready (rs:=[11]) (by kernel_rfl) (by simp) ?_
 refine AllReadyH.cons rfl (fun K hK=>?_) AllReadyH.nil
 go_simp
 refine hK.out _ _ HSA.out ?_
 clear hK K zh
 intro zh
 try simp only[Act.put,zA,zB,zC,zD,zE,zF]
 refine' tk 12 rfl (fun _ _ _ h=>h) ?aa12 zh ?_
 case aa12=>intro wS hS;obtain⟨k0,k1⟩:=hS;go_simp;try rfl
 try simp only[Act.put,zA,zB,zC,zD,zE,zF]
 refine wpAnyH_ready (rs:=[13]) (by kernel_rfl) (by simp) ?_
 refine AllReadyH.cons rfl (fun K hK=>?_) AllReadyH.nil
 go_simp
 refine hK.out _ _ HSB.out ?_
 clear hK K zh
 intro zh
 try simp only[Act.put,zA,zB,zC,zD,zE,zF]
 refine wpAnyH_done (by kernel_rfl) ?_ _
 clear zh
 try simp only[Act.put,zA,zB,zC,zD,zE,zF]
 clear kb0 fb0
 rw[←HWB.out]
 clear hWA hWB
 by_cases hck:chkA (asOf A n)=true
 case neg=>
  have hc:chgE A n T=1:=by rw[chgE,if_pos (by simpa using hck)]
  rw[chkAE,if_neg hck] at CH
  have CH:=hid CH
  have HC:=hid hc
  clear hck hc
  go_wp2_with (first
   |(refine Sh.wpList_load_at (T:=AtT) (cs:=((asOf A n).cells v).toArray) HQB.out rfl AtT (.tmp 5) rfl rfl _ Tryz.underlying79 rfl (infoAt _ _) ?_)
   |fail)
  refine CH.out.mono ?_
  rintro ex w2 ⟨rfl,hb2⟩
  have HB2:=hid (HBB.out.trans (hb2.mono HBB.out.size))
  clear hb2 CH
  go_wp2
  go_ret
  exact⟨by rw[HC.out];rfl,T,.same H.out HB2.out,fun _=>rfl,fun h=>by rw[HC.out] at h;cases h⟩
 have hl16:=(chkA_parts hck).2.2.1
 have HE:=hid (show chgE A n T=if 1099511627776≤T.clock then 3 else 0 by rw[chgE,if_neg (by rw[hck];decide)])
 rw[chkAE,if_pos hck] at CH
 have CH:=hid CH
 have HCK:=hid hck
 clear hck
 by_cases hst:1099511627776≤T.clock
 · have HC:=hid (show chgE A n T=3 by rw[HE.out,if_pos hst])
   clear hl16
   go_wp2_with (first
    |(refine Sh.wpList_load_at (T:=AtT) (cs:=((asOf A n).cells v).toArray) HQB.out rfl AtT (.tmp 5) rfl rfl _ Tryz.underlying79 rfl (infoAt _ _) ?_)
    |fail)
   refine CH.out.mono ?_
   rintro ex w2 ⟨rfl,hb2⟩
   have HB2:=hid (HBB.out.trans (hb2.mono HBB.out.size))
   clear hb2 CH
   have ST:=still_any B w2 r T (H.out.below HB2.out)
   rw[decide_eq_true hst] at ST
   unfold ptr at ST
   have ST:=hid ST
   clear hst
   go_wp2_with fail
   refine ST.out.mono ?_
   rintro ex w3 ⟨rfl,hw3⟩
   obtain rfl:w2=w3:=hw3.symm
   go_wp2
   go_ret
   exact⟨by rw[HC.out];rfl,T,.same H.out HB2.out,fun _=>rfl,fun h=>by rw[HC.out] at h;cases h⟩
 have HC:=hid (show chgE A n T=0 by rw[HE.out,if_neg hst])
 have HCL:Hid (T.clock < 1099511627776):=hid (by omega)
 go_wp2_with (first
  |(refine Sh.wpList_load_at (T:=AtT) (cs:=((asOf A n).cells v).toArray) HQB.out rfl AtT (.tmp 5) rfl rfl _ Tryz.underlying79 rfl (infoAt _ _) ?_)
  |fail)
 refine CH.out.mono ?_
 rintro ex w2 ⟨rfl,hb2⟩
 have HB2:=hid (HBB.out.trans (hb2.mono HBB.out.size))
 have HQ2:=hid ((hb2.block _ HLW.out).trans HQB.out)
 have hX2:=HXB.out.kept hb2.size (fun b hb=>hb2.block b (HXB.out.lt b hb))
 clear hb2 CH
 have ST:=still_any B w2 r T (H.out.below HB2.out)
 rw[decide_eq_false hst] at ST
 unfold ptr at ST
 have ST:=hid ST
 have OW:=hid (own_any w2 (asOf A n) v hX2 (by show A.xs.length≤1000;change A.xs.length≤16 at hl16;omega))
 clear hst hX2 hl16
 go_wp2_with fail
 refine ST.out.mono ?_
 rintro ex w3 ⟨rfl,hw3⟩
 obtain rfl:w2=w3:=hw3.symm
 go_wp2_with (first
  |(refine Sh.wpList_load_at (T:=AtT) (cs:=((asOf A n).cells v).toArray) HQ2.out rfl AtT (.tmp 5) rfl rfl _ Tryz.underlying79 rfl (infoAt _ _) ?_)
  |fail)
 refine OW.out.mono ?_
 rintro ex w4 ⟨v4,rfl,hx4,hf4,hb4⟩
 have HB4:=hid (HB2.out.trans (hb4.mono HB2.out.size))
 have HX4:=hid hx4
 have HF4:Hid (∀ b∈xob A.xs v4,w.heap.size≤b):=hid (fun b hb=>Nat.le_trans HB2.out.size (hf4 b hb))
 have hov:v4.oneCell'=true:=xs_one hx4
 have HON:Hid ((((asOf A n).cells v4).toArray).all (·.oneCell')=true):=hid (atOne _ hov)
 have H4:=hid (H.out.below HB4.out)
 have hq4:=(H4.out.node n HN.out).cells
 have HTH:Hid (w4.there n.p 2 7):=hid (fun i hi=>⟨by
  show(w4.cell? ⟨n.p,2+i,none⟩).isSome=true
  obtain⟨u,hu⟩:∃ u,n.cells.toArray[2+i]? =some u:=⟨_,Array.getElem?_eq_getElem (by show 2+i < 11;omega)⟩
  rw[show w4.cell? ⟨n.p,2+i,none⟩=some u from(cell_of_heap hq4).trans hu];rfl,frozen_of_heap hq4⟩)
 have hnew:∃ cur',(w4.setCells n.p 2 ((asOf A n).cells v4)).heap[n.p]? =some (.cells cur' NdT)∧cur'.size=n.cells.toArray.size∧cur'.toList=n.cells.toArray.toList.take 2++(asOf A n).cells v4++n.cells.toArray.toList.drop (2+((asOf A n).cells v4).length):=heap_setCells _ 2 w4 _ hq4 (by show 2+7≤11;omega)
 have HU:Hid ((w4.setCells n.p 2 ((asOf A n).cells v4)).heap[n.p]? =some (.cells (TE.cells {n with at_:=asOf A n,xv:=v4}).toArray NdT)):=hid (by
  obtain⟨cur',h1,_,h3⟩:=hnew
  rw[h1]
  have:cur'=(TE.cells {n with at_:=asOf A n,xv:=v4}).toArray:=by
   apply Array.ext'
   rw[h3]
   simp[TE.cells,XA.cells]
  rw[this])
 have HT4:Hid (Turn [n.p] w4 (w4.setCells n.p 2 ((asOf A n).cells v4))):=hid (turn_setCells _ _ _ _)
 have HPO:Hid (n.p∈ownL T.L):=hid (ownL_mem HN.out)
 have HTR:Hid (TreeAt B (w4.setCells n.p 2 ((asOf A n).cells v4)) r {T with L:=updT {n with at_:=asOf A n,xv:=v4} T.L}):=hid (by
  refine H4.out.put (e:=n) HN.out rfl rfl rfl (H4.out.kind n HN.out) HU.out (HX4.out.kept HT4.out.size (fun b hb=>HT4.out.block b (HX4.out.lt b hb) ?_)) (fun b hb=>⟨fun hbo=>?_,Nat.le_trans HBS.out (HF4.out b hb)⟩) (fun b hb hne=>HT4.out.block b (H4.out.lt b hb) (by simpa using hne)) HT4.out.size
  · have:=HF4.out b hb
    have:=H.out.lt n.p (by simp[HPO.out])
    simp;omega
  · have h1:=HF4.out b hb
    have h2:=H.out.lt b (by
     rw[List.mem_cons] at hbo ⊢
     rcases hbo with hbo|hbo
     · exact .inl hbo
     · exact .inr (List.mem_append_left _ hbo))
    omega)
 obtain⟨W5,hW5⟩:∃ W5,W5=w4.setCells n.p 2 ((asOf A n).cells v4):=⟨_,rfl⟩
 rw[←hW5] at HTR HT4
 have HW5:=hid hW5
 have HINJ:Hid (∀ x∈T.L,x.p=n.p→x=n):=hid (fun x hx hxp=>H.out.p_inj hx HN.out hxp)
 have HPN:Hid (∃ e∈updT {n with at_:=asOf A n,xv:=v4} T.L,e.p=n.p):=hid ⟨_,List.mem_map.2 ⟨n,HN.out,rfl⟩,by rw[if_pos rfl]⟩
 clear hx4 hf4 hb4 hq4 hnew OW hW5 HU
 go_wp2_with (first
  |(refine wpList_store_mid rfl AtT (.tmp 30) (.tmp 28) rfl n.p 2 ((asOf A n).cells v4).toArray rfl rfl HTH.out (infoAt _ _) HON.out ?_
    rw[show w4.setCells n.p 2 ((asOf A n).cells v4).toArray.toList=W5 from HW5.out.symm])
  |fail)
 refine(touch_row B W5 r {T with L:=updT {n with at_:=asOf A n,xv:=v4} T.L} [n.p] 1 rfl (by simp) (by intro q hq;rw[List.mem_singleton] at hq;subst hq;exact HPN.out) (by have:=HCL.out;show T.clock < _;omega) HTR.out).mono ?_
 rintro ex w6 ⟨rfl,ht6,hu6⟩
 have HT6:=hid ht6;have HU6:=hid hu6
 clear ht6 hu6
 go_wp2
 go_ret
 have hown:ownL (updT {n with at_:=asOf A n,xv:=v4} T.L)=ownL T.L:=ownL_map (updT_facts HINJ.out rfl rfl rfl)
 have t1:Turn (r::ownL T.L) w W5:=(Turn.of_below (X:=r::ownL T.L) HB4.out).trans HT4.out (fun y hy=> .inl (by simp at hy;subst hy;have:=HPO.out;simp[this]))
 refine⟨by rw[HC.out];rfl,_,⟨HT6.out,t1.trans HU6.out (fun y hy=> .inl (by
  have hy:y∈r::ownL (updT {n with at_:=asOf A n,xv:=v4} T.L):=hy
  rw[hown] at hy;exact hy)),fun b hb=>?_,?_⟩,fun h=>absurd HC.out h,fun _=>⟨v4,rfl⟩⟩
 · rw[List.mem_append] at hb ⊢
   rcases hb with hb|hb
   · have hb:b∈ownL (tickT [n.p] _ (updT {n with at_:=asOf A n,xv:=v4} T.L)):=hb
     rw[own_tickT,hown] at hb
     exact .inl (.inl hb)
   · obtain⟨x',hx',hb⟩:=List.mem_flatMap.1 hb
     have:∃ x∈updT {n with at_:=asOf A n,xv:=v4} T.L,b∈xob x.at_.xs x.xv:=by
      obtain⟨x,hx,rfl|rfl⟩:=tickT_mem hx'
      · exact⟨_,hx,hb⟩
      · exact⟨x,hx,hb⟩
     obtain⟨x,hx,hb⟩:=this
     obtain⟨y,hy,rfl⟩:=List.mem_map.1 hx
     split at hb
     · exact .inr (HF4.out b hb)
     · exact .inl (.inr (List.mem_flatMap.2 ⟨y,hy,hb⟩))
 · exact .upd n {n with at_:=asOf A n,xv:=v4} HN.out ⟨rfl,rfl,rfl,rfl,rfl,rfl⟩ HCL.out HND.out HCK.out
def attrE (p:List UInt8) (A:XA) (T:Tr):Int:=
 if splitE p≠0 then 10 else match getT (splitL p) T.L with
  |none=>6
  |some n=>chgE A n T
def AttrP (B:Nat) (w:World) (r:Nat) (T:Tr) (p:List UInt8) (A:XA) (e:Ending) (w':World):Prop:=
 e= .returned (.int .i64 (attrE p A T))∧∃ T',CallT B w r T w' T'∧(attrE p A T≠0→T'=T)∧
  (attrE p A T=0→∃ n xv,getT (splitL p) T.L=some n∧T'={T with clock:=T.clock+1,L:=tickT [n.p] ((T.clock+1:Nat):Int) (updT {n with at_:=asOf A n,xv:=xv} T.L)})
theorem attr_any (B:Nat) (w:World) (r:Nat) (T:Tr) (p:List UInt8) (hp:p.length≤4611686018427387904) (A:XA) (v:Value) (hv:XsAt w v A.xs) (hD:∀ e∈T.L,e.data.length≤1048576) (hB:B≤w.heap.size) (h:TreeAt B w r T):
 Calls Tryz.prog 28 #[ptr r,.string ⟨p.toArray⟩,.agg (A.cells v).toArray] w (AttrP B w r T p A):=by
 obtain⟨W,hW⟩:∃ W,W=w.alloc (.cells (A.cells v).toArray AtT):=⟨_,rfl⟩
 have hb0:Below w.heap.size w W:=by rw[hW];exact(Below.refl _ _).alloc (Nat.le_refl _) _
 have hq0:W.heap[w.heap.size]? =some (.cells (A.cells v).toArray AtT):=by rw[hW];exact(MapKept.heap_alloc w _).1
 have FI:=hid (find_any B W r T p hp (h.below hb0))
 have H:=hid h;have HB0:=hid hb0;have HQ0:=hid hq0;have HW:=hid hW;have HV:=hid hv;have HD:=hid hD;have HBS:=hid hB
 clear h hb0 hq0 hW hv hD hB
 unfold ptr at*
 go_enter Tryz.func28,Tryz.ntmps28
 go_wp2_with fail
 change Calls _ _ _ (w.alloc (.cells (A.cells v).toArray AtT)) _
 rw[←HW.out]
 refine FI.out.mono ?_
 rintro ex w1 ⟨vl,rfl,hp1,hb1⟩
 have HB:=hid (HB0.out.trans (hb1.mono HB0.out.size))
 have HQ1:Hid (w1.heap[w.heap.size]? =some (.cells (A.cells v).toArray AtT)):=hid ((hb1.block _ (lt_of_heap HQ0.out)).trans HQ0.out)
 obtain⟨la,lc,rfl⟩:=rowS_slice hp1.row
 clear FI hp1 hb1
 rw[findE,findN]
 rcases splitE_cases p with h0|⟨h0,_⟩
 case inr=>
  have hc:attrE p A T=10:=by rw[attrE,if_pos (by rw[h0];decide)]
  have HC:=hid hc
  rw[if_neg (by rw[h0];decide),if_neg (by rw[h0];decide)]
  unfold ptrO
  clear h0 hc
  go_wp2
  go_ret
  exact⟨by rw[HC.out];rfl,T,.same H.out HB.out,fun _=>rfl,fun h=>by rw[HC.out] at h;cases h⟩
 rw[if_pos h0,if_pos h0]
 have HE1:Hid (attrE p A T=match getT (splitL p) T.L with
  |none=>6
  |some n=>chgE A n T):=hid (by rw[attrE,if_neg (by rw[h0];decide)])
 clear h0
 cases hg:getT (splitL p) T.L with
 |none=>
  have HC:=hid (show attrE p A T=6 by rw[HE1.out,hg])
  unfold ptrO
  clear hg HE1
  go_wp2
  go_ret
  exact⟨by rw[HC.out];rfl,T,.same H.out HB.out,fun _=>rfl,fun h=>by rw[HC.out] at h;cases h⟩
 |some n=>
  have HC:=hid (show attrE p A T=chgE A n T by rw[HE1.out,hg])
  have HG:=hid hg
  obtain⟨hn,_⟩:=getT_nm hg
  have hX1:=HV.out.kept HB.out.size (fun b hb=>HB.out.block b (HV.out.lt b hb))
  have CH:=change_any B w1 r T n hn A v hX1 (HD.out n hn) (Nat.le_trans HBS.out HB.out.size) (H.out.below HB.out)
  unfold ptr at CH
  have CH:=hid CH
  unfold ptrO
  clear hg HE1 hn hX1
  go_wp2_with (first
   |(refine Sh.wpList_load_at (T:=AtT) (cs:=(A.cells v).toArray) HQ1.out rfl AtT (.tmp 5) rfl rfl _ Tryz.underlying79 rfl (infoAt _ _) ?_)
   |fail)
  refine CH.out.mono ?_
  rintro ex w2 ⟨rfl,T',hct,hno,hyes⟩
  have HCT:=hid hct;have HNO:=hid hno;have HYES:=hid hyes
  clear hct hno hyes CH
  go_wp2
  go_ret
  refine⟨by rw[HC.out];rfl,T',⟨HCT.out.tree,(Turn.of_below HB.out).trans HCT.out.turn (fun y hy=> .inl hy),fun b hb=>?_,HCT.out.ch⟩,fun h=>HNO.out (by rw[←HC.out];exact h),fun h=>?_⟩
  · rcases HCT.out.own b hb with h1|h1
    · exact .inl h1
    · exact .inr (Nat.le_trans HB.out.size h1)
  · obtain⟨xv,h1⟩:=HYES.out (by rw[←HC.out];exact h)
    exact⟨n,xv,HG.out,h1⟩
def seatN (s:List UInt8):Xs→Nat
 |[]=>0
 |x::r=>if lt x.1 s then seatN s r+1 else 0
def seatB (s:List UInt8):Xs→Bool
 |[]=>false
 |x::r=>if lt x.1 s then seatB s r else decide (x.1=s)
theorem seatN_le (s:List UInt8):∀ xs:Xs,seatN s xs≤xs.length
 |[]=>Nat.le_refl _
 |x::r=>by
  rw[seatN];split
  · have:=seatN_le s r;rw[List.length_cons];omega
  · omega
theorem seatB_lt {s:List UInt8}:∀ {xs:Xs},seatB s xs=true→seatN s xs < xs.length
 |[],h=>by cases h
 |x::r,h=>by
  rw[seatB] at h
  rw[seatN]
  split at h
  · next hl=>rw [if_pos hl];have:=seatB_lt h;rw[List.length_cons];omega
  · next hl=>rw [if_neg hl];simp
theorem seat_any (w:World) (xs:Xs) (v:Value) (s:List UInt8) (h:XsAt w v xs):
 Calls Tryz.prog 81 #[v,.string ⟨s.toArray⟩] w fun e w'=>e= .returned (.tuple #[.int .i64 (seatN s xs:Int),.bool (seatB s xs)])∧Below w.heap.size w w':=by
 obtain⟨va,vc,rfl,hxm,hxl,hxc⟩:=h
 have HXL:=hid hxl;have HXC:=hid hxc
 unfold maxLen at hxm
 have HN:Hid (seatN s xs=0+seatN s (xs.drop 0)):=hid (by simp)
 have HSB:Hid (seatB s xs=seatB s (xs.drop 0)):=hid (by simp)
 obtain⟨rn,hrn⟩:∃ rn,rn=seatN s xs:=⟨_,rfl⟩
 obtain⟨rb,hrb⟩:∃ rb,rb=seatB s xs:=⟨_,rfl⟩
 rw[←hrn] at HN ⊢
 rw[←hrb] at HSB ⊢
 clear hxl hxc hrn hrb
 go_enter Tryz.func81,Tryz.ntmps81
 go_wp2
 go_loopw [10] (fun v10 wr=>∃ i:Nat,i≤xs.length∧v10= .int .i64 (i:Int)∧Hid (rn=i+seatN s (xs.drop i))∧Hid (rb=seatB s (xs.drop i))∧Hid (Below w.heap.size w wr)) (fun v10 _=>xs.length - (RowKit.intOf v10).toNat)
 case atStart=>exact ⟨0,by omega,rfl,HN,HSB,hid (Below.refl _ _)⟩
 case round=>
  obtain⟨i,hi,rfl,HN,HSB,HB⟩:=hrel
  by_cases hil:(i:Int) < (xs.length:Int)
  · have hi2:i < xs.length:=by omega
    obtain⟨x,hx⟩:∃ x,xs[i]? =some x:=⟨_,List.getElem?_eq_getElem hi2⟩
    obtain⟨b,o,rfl,hb,hcl⟩:=HXC.out (fun h=>by rw[h] at hi2;cases hi2)
    obtain⟨cx1,cx2⟩:=hcl i x hx
    have cy1:=(World.cell?_of_block (a:=⟨b,o+i*2,none⟩) (HB.out.block b hb)).trans cx1
    have cy2:=(World.cell?_of_block (a:=⟨b,o+i*2+1,none⟩) (HB.out.block b hb)).trans cx2
    have hd:xs.drop i=x::xs.drop (i+1):=by
     rw[List.drop_eq_getElem_cons hi2]
     congr 1
     rw[List.getElem?_eq_getElem hi2] at hx;exact Option.some.inj hx
    have HN2:Hid (rn=i+if lt x.1 s then seatN s (xs.drop (i+1))+1 else 0):=hid (by rw[HN.out,hd,seatN])
    have HB2:Hid (rb=if lt x.1 s then seatB s (xs.drop (i+1)) else decide (x.1=s)):=hid (by rw[HSB.out,hd,seatB])
    have HRG:Hid (wr.rangeAt b (o+i*2) [.string ⟨x.1.toArray⟩,.string ⟨x.2.toArray⟩]):=hid (by
     intro j u hu
     match j,hu with
     |0,hu=>obtain rfl:=Option.some.inj hu;exact cy1
     |1,hu=>obtain rfl:=Option.some.inj hu;exact cy2)
    have HI2:=hid (infoXa1 x)
    have hls:=lt_less x.1 s
    clear hcl cx1 cx2 hx cy1 cy2 hd HN HSB
    cases hlt:lt x.1 s with
    |true=>
     rw[hlt] at hls HN2 HB2
     have HN3:Hid (rn=(i+1)+seatN s (xs.drop (i+1))):=hid (by rw[HN2.out,if_pos rfl];omega)
     have HB3:Hid (rb=seatB s (xs.drop (i+1))):=hid (by rw[HB2.out,if_pos rfl])
     clear HN2 HB2 hlt
     go_wp2_with (first
      |(refine wpList_load_mid rfl _ _ rfl b (o+i*2) rfl [.string ⟨x.1.toArray⟩,.string ⟨x.2.toArray⟩] _ HRG.out Tryz.underlying123 rfl HI2.out ?_))
     go_roundw
     case rel=>exact ⟨i+1,by omega,by go_num,HN3,HB3,hid (HB.out.alloc HB.out.size _)⟩
     case measure=>simp [RowKit.intOf];omega
    |false=>
     rw[hlt] at hls HN2 HB2
     obtain rfl:i=rn:=by rw[HN2.out];simp
     have HRB:Hid (rb=decide (x.1=s)):=hid (by rw[HB2.out];simp)
     have KS:Hid ((wr.alloc (.cells #[.string ⟨x.1.toArray⟩,.string ⟨x.2.toArray⟩] 123)).drew.cell? ⟨wr.heap.size,0,none⟩=some (.string ⟨x.1.toArray⟩)):=hid (cell_of_heap (MapKept.heap_alloc wr (.cells #[.string ⟨x.1.toArray⟩,.string ⟨x.2.toArray⟩] 123)).1)
     clear HN2 HB2 hlt
     go_wp2_with (first
      |(refine wpList_load_mid rfl _ _ rfl b (o+i*2) rfl [.string ⟨x.1.toArray⟩,.string ⟨x.2.toArray⟩] _ HRG.out Tryz.underlying123 rfl HI2.out ?_))
     refine wp_region_held_drew (S:=(fun w':World=>w'.cell? ⟨wr.heap.size,0,none⟩=some (.string ⟨x.1.toArray⟩))) (by kernel_rfl) KS.out (fun zh=>?_)
     iterate 7
      first|refine' tj 0 rfl rfl (fun _ _ _ h=>h) ?_ zh ?_|refine' tj 1 rfl rfl (fun _ _ _ h=>h) ?_ zh ?_|refine' tj 2 rfl rfl (fun _ _ _ h=>h) ?_ zh ?_|refine' tj 3 rfl rfl (fun _ _ _ h=>h) ?_ zh ?_|refine' tj 4 rfl rfl (fun _ _ _ h=>h) ?_ zh ?_|refine' tj 5 rfl rfl (fun _ _ _ h=>h) ?_ zh ?_|refine' tj 6 rfl rfl (fun _ _ _ h=>h) ?_ zh ?_
      rotate_left
      · intro wS hS;have k0:=hS;go_simp;try rfl
      try simp only[Act.put,zA,zB,zC,zD,zE,zF]
     refine wpAnyH_done (by kernel_rfl) ?_ _
     clear zh
     try simp only[Act.put,zA,zB,zC,zD,zE,zF]
     go_wp2
     go_ret2
     have hbe:decide (x.1=s)=(x.1==s):=by rw[Bool.eq_iff_iff];simp
     exact⟨by rw[HRB.out,hbe];rfl,(HB.out.alloc HB.out.size _).drew⟩
  · obtain rfl:i=xs.length:=by omega
    have hrn:rn=xs.length:=by rw[HN.out,List.drop_length];rfl
    have hrb:rb=false:=by rw[HSB.out,List.drop_length];rfl
    clear HN HSB
    subst hrn hrb
    go_wp2
    go_ret2
    exact⟨rfl,HB.out⟩
section
variable {P:Program}
theorem run_copy_wide (w:World) (dT sT ty elem:TypeId) (k g o dLen dCap:Nat) (a:Addr) (sLen sCap:Nat) (cur:Array Value) (t:TypeId) (cs:List Value)
 (hu:P.underlying dT=some (.slice elem)) (hs:(P.info? elem).map (·.size)=some k)
 (hg:w.heap[g]? =some (.cells cur t (0,0))) (hn:cs.length=Nat.min sLen dLen*k)
 (hsrc:∀ j v,cs[j]? =some v→w.cell? (a.add j)=some v) (hfit:o+cs.length≤cur.size) (h1:∀ v∈cs,v.oneCell'=true):
 (Builtin.copy_ #[dT,sT] ty #[.slice (some ⟨g,o,none⟩) dLen dCap,.slice (some a) sLen sCap]).run P w=
   .ok (goInt (Nat.min sLen dLen)) (w.setRow g (cur.toList.take o++cs++cur.toList.drop (o+cs.length)).toArray):=by
 have hl:=run_loadCells_list (P:=P) w a cs hsrc
 have hst:=run_storeCells_at P g o t cs 0 cur w hg (by simpa using hfit) h1
 cases hq:P.info? elem with
 |none=>simp [hq] at hs
 |some i=>
  have hi:i.size=k:=by simpa [hq] using hs
  simp[Builtin.copy_,run_underlying hu,Builtin.lenOf,Builtin.firstCells,sizeOf,typeInfo,hq,hi,←hn,hl,hst]
end
theorem turn_setRow {X:List Nat} {a b:World} (h:Turn X a b) {g:Nat} (hg:g∈X∨a.heap.size≤g) (cs:Array Value):Turn X a (b.setRow g cs):=
 ⟨h.os,h.tape,h.output,by rw[setRow_size];exact h.size,fun k hk hx=>by
   rw[setRow_other b g k cs (fun e=>by subst e;rcases hg with hg|hg;exact hx hg;omega)];exact h.block k hk hx⟩
theorem xcells_app (a b:Xs):xcells (a++b)=xcells a++xcells b:=by rw[xcells,List.flatMap_append];rfl
theorem xcells_take (xs:Xs) {i:Nat} (hi:i≤xs.length):xcells (xs.take i)=(xcells xs).take (i*2):=by
 have h:=xcells_app (xs.take i) (xs.drop i)
 rw[List.take_append_drop] at h
 rw[h,List.take_left' (by rw[xcells_length,List.length_take];omega)]
theorem xcells_drop (xs:Xs) {i:Nat} (hi:i≤xs.length):xcells (xs.drop i)=(xcells xs).drop (i*2):=by
 have h:=xcells_app (xs.take i) (xs.drop i)
 rw[List.take_append_drop] at h
 rw[h,List.drop_left' (by rw[xcells_length,List.length_take];omega)]
def insX (xs:Xs) (i:Nat) (x:List UInt8×List UInt8):Xs:=xs.take i++x::xs.drop i
theorem insX_len (xs:Xs) {i:Nat} (hi:i≤xs.length) (x:List UInt8×List UInt8):(insX xs i x).length=xs.length+1:=by
 rw[insX,List.length_append,List.length_cons,List.length_take,List.length_drop];omega
def xpair (x:List UInt8×List UInt8):List Value:=[.string ⟨x.1.toArray⟩,.string ⟨x.2.toArray⟩]
theorem insX_cells (xs:Xs) {i:Nat} (hi:i≤xs.length) (x:List UInt8×List UInt8):xcells (insX xs i x)=(xcells xs).take (i*2)++(xpair x++(xcells xs).drop (i*2)):=by
 rw[insX,xcells_app,xcells_take xs hi,←xcells_drop xs hi];rfl
section
variable {L X:List Value} {i n:Nat} {p:List Value}
theorem shift_cells (hX:L.take (n*2)=X) (hi:i < n) (hp:p.length=2) (hL:(n+1)*2≤L.length) {c1 c2:List Value}
 (h1:c1=L.take ((i+1)*2)++X.drop (i*2)++L.drop ((i+1)*2+(X.drop (i*2)).length)) (h2:c2=c1.take (i*2)++p++c1.drop (i*2+p.length)):
 c2.take ((n+1)*2)=X.take (i*2)++(p++X.drop (i*2))∧c2.length=L.length∧c1.length=L.length:=by
 have hXl:X.length=n*2:=by rw[←hX,List.length_take];omega
 have hdl:(X.drop (i*2)).length=n*2 - i*2:=by rw[List.length_drop,hXl]
 have l1:c1.length=L.length:=by
  rw[h1,List.length_append,List.length_append,List.length_take,hdl,List.length_drop];omega
 have t1:c1.take (i*2)=X.take (i*2):=by
  rw[h1,List.append_assoc,List.take_append_of_le_length (by rw[List.length_take];omega),List.take_take,←hX,List.take_take]
  congr 1;omega
 have d1:c1.drop (i*2+p.length)=X.drop (i*2)++L.drop ((i+1)*2+(X.drop (i*2)).length):=by
  rw[h1,List.append_assoc,List.drop_left' (by rw[List.length_take];omega)]
 refine⟨?_,?_,l1⟩
 · rw[h2,t1,d1]
   have:X.take (i*2)++p++(X.drop (i*2)++L.drop ((i+1)*2+(X.drop (i*2)).length))=(X.take (i*2)++(p++X.drop (i*2)))++L.drop ((i+1)*2+(X.drop (i*2)).length):=by simp
   rw[this,List.take_left']
   simp only[List.length_append,List.length_take,hdl,hXl,hp];omega
 · rw[h2,t1,d1]
   simp only[List.length_append,List.length_take,hdl,hXl,hp,List.length_drop];omega
theorem grow_cells (hX:X.length=n*2) (hi:i < n) (hp:p.length=2) {Z c1 c2:List Value} (hZ:Z.take (i*2)=X.take (i*2)) (hL:(n+1)*2≤Z.length)
 (h1:c1=Z.take (i*2)++p++Z.drop (i*2+p.length)) (h2:c2=c1.take ((i+1)*2)++X.drop (i*2)++c1.drop ((i+1)*2+(X.drop (i*2)).length)):
 c2.take ((n+1)*2)=X.take (i*2)++(p++X.drop (i*2))∧c2.length=Z.length∧c1.length=Z.length:=by
 have hdl:(X.drop (i*2)).length=n*2 - i*2:=by rw[List.length_drop,hX]
 have htl:(X.take (i*2)).length=i*2:=by rw[List.length_take];omega
 have l1:c1.length=Z.length:=by
  rw[h1,List.length_append,List.length_append,List.length_take,hp,List.length_drop];omega
 have t1:c1.take ((i+1)*2)=X.take (i*2)++p:=by
  rw[h1,hZ,List.take_left' (by rw[List.length_append,htl,hp];omega)]
 refine⟨?_,?_,l1⟩
 · rw[h2,t1]
   have e:X.take (i*2)++p++X.drop (i*2)++c1.drop ((i+1)*2+(X.drop (i*2)).length)=(X.take (i*2)++(p++X.drop (i*2)))++c1.drop ((i+1)*2+(X.drop (i*2)).length):=by simp
   rw[e,List.take_left' (by simp only[List.length_append,htl,hdl,hp];omega)]
 · rw[h2,t1]
   simp only[List.length_append,htl,hdl,hp,List.length_drop,l1];omega
end
def InsPost (C:Nat) (w:World) (v:Value) (xs:Xs) (i:Nat) (x:List UInt8×List UInt8) (e:Ending) (w':World):Prop:=
 ∃ v',e= .returned v'∧w'.ownsRow C 123 2 v' (xs.length+1) (xcells (insX xs i x))∧Turn (ob v) w w'∧(∀ b∈ob v',b∈ob v∨w.heap.size≤b)
theorem xpair_one (x:List UInt8×List UInt8):∀ u∈xpair x,u.oneCell'=true:=by
 intro u hu
 simp[xpair] at hu
 rcases hu with rfl|rfl <;> rfl
theorem sizeXa (w:World):(Go.sizeOf 123).run Tryz.prog w= .ok 2 w:=by kernel_rfl
theorem infoXa2:(Tryz.prog.info? 123).map (·.size)=some 2:=by kernel_rfl
theorem xins_end (C:Nat) (w:World) (v:Value) (xs:Xs) (x:List UInt8×List UInt8) (hl:xs.length≤1000) (hrow:w.ownsRow C 123 2 v xs.length (xcells xs)) (vb:Nat) (hvb:w.heap[vb]? =some (.cells (xpair x).toArray 123)) (hC:C≤w.heap.size):
 Calls Tryz.prog 82 #[v,.int .i64 (xs.length:Int),.slice (some ⟨vb,0,none⟩) 1 1] w (InsPost C w v xs xs.length x):=by
 obtain⟨i0,hi0,hz0,hz1,hz2⟩:=info_parts infoXa
 have hz3:(Value.agg #[.string ⟨#[]⟩,.string ⟨#[]⟩]).cells.size=2:=by kernel_rfl
 have HXC:=hid (insX_cells xs (Nat.le_refl _) x)
 have HXL:=hid (xcells_length xs)
 have HR:=hid hrow
 have HVB:Hid (∀ (j:Nat) u,(xpair x)[j]? =some u→w.cell? ((⟨vb,0,none⟩:Addr).add j)=some u):=hid (fun j u hj=>by
  rw[Addr.add_lit,Nat.zero_add,cell_of_heap hvb];simpa using hj)
 have HOB:Hid (∀ b∈ob v,b < w.heap.size):=hid (rowS_lt hrow)
 have KEY:Hid (∀ v' w1,w1.ownsRow C 123 2 v' (xs.length+1) (xcells xs++xpair x)→w.grownBy w1 v.ownBlock→(v'.ownBlock=v.ownBlock∨v'.ownBlock=some w.heap.size)→InsPost C w v xs xs.length x (.returned v') w1):=hid (fun v' w1 ho hg hob=>by
  refine⟨v',rfl,?_,⟨hg.os,hg.tape,hg.output,hg.size,fun k hk hx=>hg.block k hk (fun e=>hx (by unfold ob;rw[←e];simp))⟩,fun b hb=>?_⟩
  · rw[HXC.out,List.take_of_length_le (by rw[HXL.out];omega),List.drop_of_length_le (by rw[HXL.out];omega),List.append_nil]
    exact ho
  · unfold ob at hb ⊢
    rcases hob with h|h
    · rw[h] at hb;exact .inl hb
    · rw[h] at hb;right;have:b=w.heap.size:=by simpa using hb
      omega)
 clear hvb hrow
 obtain⟨va,vc,rfl⟩:=rowS_slice HR.out
 have HR2:=HR.out
 obtain⟨_,hcase⟩:=HR2
 rcases hcase with⟨hv,h0⟩|⟨g,cap,cur,hv,_,_,hnc,hcm,_,_⟩
 · injection hv with e1 e2 e3
   subst e1 e3
   rw[h0] at HR KEY ⊢
   clear e2
   go_enter Tryz.func82,Tryz.ntmps82
   go_wp2_with (at_builtin;refine wpList_append_own_at _ rfl _ _ 77 rfl C 123 i0 _ 2 32 Tryz.underlying77 hi0 hz0 hz1 hz2 hz3 (by decide) _ _ _ rfl HR.out ⟨vb,0,none⟩ 1 1 (xpair x) rfl rfl HVB.out (xpair_one x) (by unfold maxLen;omega) (by omega) hC ?_)
   intro v' w1 hown hgrow hnil hat
   have HF:=hid (KEY.out v' w1 hown hgrow hat)
   clear hown hgrow hnil hat
   go_wp2
   go_ret
   exact HF.out
 · injection hv with e1 e2 e3
   subst e1 e3
   clear e2
   by_cases hcn:vc=xs.length
   all_goals
    go_enter Tryz.func82,Tryz.ntmps82
    go_wp2_with (at_builtin;refine wpList_append_own_at _ rfl _ _ 77 rfl C 123 i0 _ 2 32 Tryz.underlying77 hi0 hz0 hz1 hz2 hz3 (by decide) _ _ _ rfl HR.out ⟨vb,0,none⟩ 1 1 (xpair x) rfl rfl HVB.out (xpair_one x) (by unfold maxLen;omega) (by omega) hC ?_)
    intro v' w1 hown hgrow hnil hat
    have HF:=hid (KEY.out v' w1 hown hgrow hat)
    clear hown hgrow hnil hat
    go_wp2
    go_ret
    exact HF.out
theorem xins_shift (C:Nat) (w:World) (g cap:Nat) (cur:Array Value) (xs:Xs) (i:Nat) (hi:i < xs.length) (x:List UInt8×List UInt8) (hl:xs.length≤1000) (hCg:C≤g) (hg:w.heap[g]? =some (.cells cur 123 (0,0))) (hroom:xs.length+1≤cap) (hcm:cap≤maxLen) (hsz:cur.size=cap*2) (hcur:cur.toList.take (xs.length*2)=xcells xs)
 (vb:Nat) (hvb:w.heap[vb]? =some (.cells (xpair x).toArray 123)) (hne:vb≠g):
 Calls Tryz.prog 82 #[.slice (some ⟨g,0,none⟩) xs.length cap,.int .i64 (i:Int),.slice (some ⟨vb,0,none⟩) 1 1] w (InsPost C w (.slice (some ⟨g,0,none⟩) xs.length cap) xs i x):=by
 obtain⟨n,hn⟩:∃ n,n=xs.length:=⟨_,rfl⟩
 obtain⟨X,hX⟩:∃ X,X=xcells xs:=⟨_,rfl⟩
 have HXl:Hid (X.length=n*2):=hid (by rw[hX,hn];exact xcells_length xs)
 have HXone:Hid (∀ u∈X,u.oneCell'=true):=hid (by rw[hX];exact xcells_one xs)
 obtain⟨c1,hc1⟩:∃ c1,c1=cur.toList.take ((i+1)*2)++X.drop (i*2)++cur.toList.drop ((i+1)*2+(X.drop (i*2)).length):=⟨_,rfl⟩
 obtain⟨c2,hc2⟩:∃ c2,c2=c1.take (i*2)++xpair x++c1.drop (i*2+(xpair x).length):=⟨_,rfl⟩
 have hi':i < n:=by omega
 obtain⟨hs1,hs2,hs3⟩:=shift_cells (L:=cur.toList) (X:=X) (i:=i) (n:=n) (p:=xpair x) (by rw[hn,hX];exact hcur) hi' rfl (by rw[Array.length_toList,hsz];omega) hc1 hc2
 have hdl:(X.drop (i*2)).length=(n - i)*2:=by rw[List.length_drop,HXl.out];omega
 obtain⟨W1,hW1⟩:∃ W1,W1=w.drew.setRow g c1.toArray:=⟨_,rfl⟩
 obtain⟨W2,hW2⟩:∃ W2,W2=W1.setRow g c2.toArray:=⟨_,rfl⟩
 have hg1:W1.heap[g]? =some (.cells c1.toArray 123 (0,0)):=by rw[hW1];exact setRow_heap w.drew g cur _ _ _ hg
 have hg2:W2.heap[g]? =some (.cells c2.toArray 123 (0,0)):=by rw[hW2];exact setRow_heap W1 g _ _ _ _ hg1
 have HCP1:Hid (∀ ty dc sc,(Builtin.copy_ #[77,77] ty #[.slice (some ⟨g,(i+1)*2,none⟩) (n - i) dc,.slice (some ⟨g,i*2,none⟩) (n+1 - i) sc]).run Tryz.prog w.drew= .ok (goInt ((n - i:Nat):Int)) W1):=hid (fun ty dc sc=>by
  have h:=run_copy_wide (P:=Tryz.prog) w.drew 77 77 ty 123 2 g ((i+1)*2) (n - i) dc ⟨g,i*2,none⟩ (n+1 - i) sc cur _ (X.drop (i*2)) Tryz.underlying77 infoXa2 hg
   (by rw[hdl];congr 1;simp only[Nat.min_def];split <;> omega)
   (fun j u hj=>by
     rw[Addr.add_lit]
     rw[List.getElem?_drop,hX,←hcur,List.getElem?_take] at hj
     split at hj
     · rw[cell_of_heap (w:=w.drew) hg,←Array.getElem?_toList];exact hj
     · cases hj)
   (by rw[hdl,hsz];omega) (fun u hu=>HXone.out u (List.mem_of_mem_drop hu))
  rw[h,hW1,hc1]
  congr 2
  simp only[Nat.min_def];split <;> omega)
 have HCP2:Hid (∀ ty dc,(Builtin.copy_ #[77,77] ty #[.slice (some ⟨g,i*2,none⟩) (n+1 - i) dc,.slice (some ⟨vb,0,none⟩) 1 1]).run Tryz.prog W1= .ok (goInt 1) W2):=hid (fun ty dc=>by
  have hm:Nat.min 1 (n+1 - i)=1:=by simp only[Nat.min_def];split <;> omega
  have h:=run_copy_wide (P:=Tryz.prog) W1 77 77 ty 123 2 g (i*2) (n+1 - i) dc ⟨vb,0,none⟩ 1 1 c1.toArray _ (xpair x) Tryz.underlying77 infoXa2 hg1
   (by rw[hm];rfl)
   (fun j u hj=>by
     rw[Addr.add_lit,Nat.zero_add,hW1,cell_setRow_other _ _ _ _ (by exact hne),cell_of_heap (w:=w.drew) hvb];simpa using hj)
   (by simp only[List.size_toArray,hs3,Array.length_toList,hsz];show _+2≤_;omega) (xpair_one x)
  rw[h,hW2,hc2,hm]
  rfl)
 have hov:∀ lb cb,(callFunc 94 #[.slice (some ⟨vb,0,none⟩) 1 1,.slice (some ⟨g,(i+1)*2,none⟩) lb cb]).run Tryz.prog w= .ok (.value (.bool false)) w:=fun lb cb=>by
  rw[run_callFunc_extern Tryz.func94 (by kernel_rfl) (by kernel_rfl) (by kernel_rfl) (e:=Extern.SlicesOverlaps.overlaps #[77,77] #[4]) (by kernel_rfl),
   Lib.run_overlaps_apart w 77 4 123 Tryz.underlying77 2 sizeXa ⟨vb,0,none⟩ ⟨g,(i+1)*2,none⟩ 1 1 lb cb hne 123 123 2 (cap*2) (by simp[World.shape?,hvb,xpair]) (by simp[World.shape?,hg,hsz]) (by omega) (frozen_of_heap hvb) (frozen_of_heap hvb)]
  rfl
 have HF:Hid (InsPost C w (.slice (some ⟨g,0,none⟩) n cap) xs i x (.returned (.slice (some ⟨g,0,none⟩) (n+1) cap)) W2):=hid (by
  refine⟨_,rfl,⟨by rw[xcells_length,insX_len xs (by omega)],.inr ⟨g,cap,c2.toArray,by rw[hn],hCg,hg2,by omega,hcm,by simp[hs2,hsz],?_⟩⟩,?_,fun b hb=> .inl hb⟩
  · rw[insX_cells xs (by omega),←hX,←hn];exact hs1
  · rw[hW2,hW1]
    exact turn_setRow (turn_setRow ((Turn.refl _ w).drew) (.inl (by simp[ob,Value.ownBlock])) _) (.inl (by simp[ob,Value.ownBlock])) _)
 have mixed:Tryz.prog.follows .mixedOrders=true:=by kernel_rfl
 have hw1:IntKind.i64.wrap ((i:Int)+1)=(i:Int)+1:=by rw[IntKind.wrap_i64];omega
 have hb1:(0:Int)≤(i:Int)+1:=by omega
 have hin:i≤n:=by omega
 have htn:((i:Int)+1).toNat=i+1:=by omega
 have hb2:¬ (cap=i+1):=by omega
 have hb3:(i:Int)≤(n:Int)+1:=by omega
 have hb4:¬ (cap=i):=by omega
 have hz2:¬ ((i:Int)=(n:Int)):=by omega
 unfold maxLen at hcm
 rw[←hn] at hl hroom ⊢
 clear hX hc1 hc2 hs1 hs2 hs3 hdl hW1 hW2 hg1 hg2 hg hvb hcur hsz hn hi
 go_enter Tryz.func82,Tryz.ntmps82
 go_wp2_with (simp only[hov])
 have hcx:=HCP1.out 3 (cap - (i+1)) (cap - i)
 go_region
 clear hcx
 have hcy:=HCP2.out 3 (cap - i)
 go_wp2
 clear hcy
 go_ret
 exact HF.out
theorem zeros_size (k:Nat):(Builtin.zeroCells (Value.agg #[.string ⟨#[]⟩,.string ⟨#[]⟩]).cells k).size=k*2:=by
 simp[Builtin.zeroCells,Value.cells]
theorem xins_grow (C:Nat) (w:World) (g cap:Nat) (cur:Array Value) (xs:Xs) (i:Nat) (hi:i < xs.length) (x:List UInt8×List UInt8) (hl:xs.length≤1000) (hg:w.heap[g]? =some (.cells cur 123 (0,0))) (hnc:xs.length≤cap) (hroom:cap < xs.length+1) (hcur:cur.toList.take (xs.length*2)=xcells xs)
 (vb:Nat) (hvb:w.heap[vb]? =some (.cells (xpair x).toArray 123)) (hC:C≤w.heap.size):
 Calls Tryz.prog 82 #[.slice (some ⟨g,0,none⟩) xs.length cap,.int .i64 (i:Int),.slice (some ⟨vb,0,none⟩) 1 1] w (InsPost C w (.slice (some ⟨g,0,none⟩) xs.length cap) xs i x):=by
 obtain⟨i0,hi0,hz0,hz1,hz2⟩:=info_parts infoXa
 obtain⟨n,hn⟩:∃ n,n=xs.length:=⟨_,rfl⟩
 obtain⟨X,hX⟩:∃ X,X=xcells xs:=⟨_,rfl⟩
 obtain rfl:cap=n:=by omega
 have hXl:X.length=cap*2:=by rw[hX,hn];exact xcells_length xs
 have HXone:Hid (∀ u∈X,u.oneCell'=true):=hid (by rw[hX];exact xcells_one xs)
 have hi':i < cap:=by omega
 have hXg:∀ j u,X[j]? =some u→w.cell? ⟨g,j,none⟩=some u:=fun j u hj=>by
  rw[hX,←hcur,List.getElem?_take] at hj
  split at hj
  · rw[cell_of_heap hg,←Array.getElem?_toList];exact hj
  · cases hj
 have hold:(Builtin.firstCells i0.size i (.slice (some ⟨g,0,none⟩) i cap)).run Tryz.prog w.drew= .ok (X.take (i*2)).toArray w.drew:=by
  rw[hz1]
  exact run_firstCells_some w.drew 2 i ⟨g,0,none⟩ i cap (X.take (i*2)) (by rw[List.length_take];omega) (fun j u hj=>by
   rw[Addr.add_lit,Nat.zero_add]
   rw[List.getElem?_take] at hj
   split at hj
   · exact hXg j u hj
   · cases hj)
 obtain⟨h,hh⟩:∃ h,h=w.heap.size:=⟨_,rfl⟩
 obtain⟨G,hG⟩:∃ G,G=grownCap w (cap+1) cap 123:=⟨_,rfl⟩
 have hGn:cap+1≤G:=by rw[hG];exact grownCap_ge w _ _ _
 have hGm:G≤maxLen:=by rw[hG];exact grownCap_le_maxLen w _ _ _ (by unfold maxLen;omega)
 obtain⟨Z,hZ⟩:∃ Z:Array Value,Z=(X.take (i*2)).toArray++Builtin.zeroCells (Value.agg #[.string ⟨#[]⟩,.string ⟨#[]⟩]).cells (cap+1 - i)++Builtin.zeroCells (Value.agg #[.string ⟨#[]⟩,.string ⟨#[]⟩]).cells (G - (cap+1)):=⟨_,rfl⟩
 have hZl:Z.size=G*2:=by
  rw[hZ,Array.size_append,Array.size_append,zeros_size,zeros_size,List.size_toArray,List.length_take];omega
 have hZt:Z.toList.take (i*2)=X.take (i*2):=by
  rw[hZ,Array.toList_append,Array.toList_append,List.append_assoc,List.take_left' (by simp;omega)]
 obtain⟨W1,hW1⟩:∃ W1,W1=w.drew.alloc (.cells Z 123):=⟨_,rfl⟩
 have hrz:(Builtin.append_ #[77,3] 77 #[.slice (some ⟨g,0,none⟩) i cap,.int .i64 ((cap:Int)+1 - (i:Int))]).run Tryz.prog w= .ok (.slice (some ⟨h,0,none⟩) (cap+1) G) W1:=by
  have hik:i+(cap+1 - i)=cap+1:=by omega
  have h:=Lib.run_append_grow_zeros (P:=Tryz.prog) w 77 3 77 123 i0 _ .i64 .i64 Tryz.underlying77 Tryz.underlying3 hi0 hz0 (some ⟨g,0,none⟩) i cap (X.take (i*2)) hold (cap+1 - i) (by omega) (by omega) (by omega) (by omega) (by rw[hz2];omega) (by rw[hz2,hik];exact growslice_fits (by omega) (by omega))
  rw[hik,←hG,←hZ,←hh,←hW1,show ((cap+1 - i:Nat):Int)=(cap:Int)+1 - (i:Int) by omega] at h
  exact h
 have hq1:W1.heap[h]? =some (.cells Z 123 (0,0)):=by rw[hW1,hh];exact(MapKept.heap_alloc w.drew _).1
 have hgh:g < w.heap.size:=lt_of_heap hg
 have hvh:vb < w.heap.size:=lt_of_heap hvb
 have hb1:Below w.heap.size w W1:=by rw[hW1];exact(Below.refl _ w).drew.alloc (Nat.le_refl _) _
 obtain⟨c1,hc1⟩:∃ c1,c1=Z.toList.take (i*2)++xpair x++Z.toList.drop (i*2+(xpair x).length):=⟨_,rfl⟩
 obtain⟨c2,hc2⟩:∃ c2,c2=c1.take ((i+1)*2)++X.drop (i*2)++c1.drop ((i+1)*2+(X.drop (i*2)).length):=⟨_,rfl⟩
 obtain⟨hs1,hs2,hs3⟩:=grow_cells (X:=X) (Z:=Z.toList) (i:=i) (n:=cap) (p:=xpair x) hXl hi' rfl hZt (by rw[Array.length_toList,hZl];omega) hc1 hc2
 have hdl:(X.drop (i*2)).length=(cap - i)*2:=by rw[List.length_drop,hXl];omega
 obtain⟨W2,hW2⟩:∃ W2,W2=W1.setRow h c1.toArray:=⟨_,rfl⟩
 have hq2:W2.heap[h]? =some (.cells c1.toArray 123 (0,0)):=by rw[hW2];exact setRow_heap W1 h _ _ _ _ hq1
 obtain⟨W3,hW3⟩:∃ W3,W3=W2.drew.setRow h c2.toArray:=⟨_,rfl⟩
 have hq3:W3.heap[h]? =some (.cells c2.toArray 123 (0,0)):=by rw[hW3];exact setRow_heap W2.drew h _ _ _ _ hq2
 have hcp1:(Builtin.copy_ #[77,77] 3 #[.slice (some ⟨h,i*2,none⟩) (cap+1 - i) (G - i),.slice (some ⟨vb,0,none⟩) 1 1]).run Tryz.prog W1= .ok (goInt 1) W2:=by
  have hm:Nat.min 1 (cap+1 - i)=1:=by simp only[Nat.min_def];split <;> omega
  have h:=run_copy_wide (P:=Tryz.prog) W1 77 77 3 123 2 h (i*2) (cap+1 - i) (G - i) ⟨vb,0,none⟩ 1 1 Z _ (xpair x) Tryz.underlying77 infoXa2 hq1
   (by rw[hm];rfl)
   (fun j u hj=>by
     rw[Addr.add_lit,Nat.zero_add,cell_of_heap ((hb1.block vb hvh).trans hvb)];simpa using hj)
   (by rw[hZl];show _+2≤_;omega) (xpair_one x)
  rw[h,hW2,hc1,hm]
  rfl
 have hcp2:(Builtin.copy_ #[77,77] 3 #[.slice (some ⟨h,(i+1)*2,none⟩) (cap - i) (G - (i+1)),.slice (some ⟨g,i*2,none⟩) (cap - i) (cap - i)]).run Tryz.prog W2.drew= .ok (goInt ((cap - i:Nat):Int)) W3:=by
  have hne:g≠h:=by omega
  have h:=run_copy_wide (P:=Tryz.prog) W2.drew 77 77 3 123 2 h ((i+1)*2) (cap - i) (G - (i+1)) ⟨g,i*2,none⟩ (cap - i) (cap - i) c1.toArray _ (X.drop (i*2)) Tryz.underlying77 infoXa2 hq2
   (by rw[hdl];congr 1;simp only[Nat.min_def];split <;> omega)
   (fun j u hj=>by
     rw[List.getElem?_drop] at hj
     have h2:=hXg _ u hj
     rw[Addr.add_lit]
     show W2.cell? _=_
     rw[hW2,cell_setRow_other _ _ _ _ (by exact hne)]
     exact(hb1.cell (p:=⟨g,i*2+j,none⟩) hgh).trans h2)
   (by rw[hdl,List.size_toArray,hs3,Array.length_toList,hZl];omega) (fun u hu=>HXone.out u (List.mem_of_mem_drop hu))
  rw[h,hW3,hc2]
  congr 2
  simp only[Nat.min_def];split <;> omega
 have HF:Hid (InsPost C w (.slice (some ⟨g,0,none⟩) cap cap) xs i x (.returned (.slice (some ⟨h,0,none⟩) (cap+1) G)) W3):=hid (by
  refine⟨_,rfl,⟨by rw[xcells_length,insX_len xs (by omega)],.inr ⟨h,G,c2.toArray,by rw[hn],by omega,hq3,by omega,hGm,by simp[hs2,hZl],?_⟩⟩,?_,fun b hb=> .inr ?_⟩
  · rw[insX_cells xs (by omega),←hX,←hn];exact hs1
  · rw[hW3,hW2]
    exact turn_setRow ((turn_setRow (Turn.of_below hb1) (.inr (by omega)) _).drew) (.inr (by omega)) _
  · simp[ob,Value.ownBlock] at hb;omega)
 have hw1:IntKind.i64.wrap ((i:Int)+1)=(i:Int)+1:=by rw[IntKind.wrap_i64];omega
 have hb1:(0:Int)≤(i:Int)+1:=by omega
 have htn:((i:Int)+1).toNat=i+1:=by omega
 have hb2:¬ (G=i+1):=by omega
 have hb3:(i:Int)≤(cap:Int):=by omega
 have hb4:¬ (G=i):=by omega
 have hb5:¬ (cap=i):=by omega
 have hz3:¬ ((i:Int)=(cap:Int)):=by omega
 have mixed:Tryz.prog.follows .mixedOrders=true:=by kernel_rfl
 unfold maxLen at hGm
 rw[←hn] at hl ⊢
 have HRZ:=hid hrz
 clear hX hc1 hc2 hs1 hs2 hs3 hdl hW1 hW2 hW3 hq1 hq2 hq3 hg hvb hcur hn hi hold hZ hZl hZt hG hXg hXl hb1 hgh hvh hnc hroom hz0 hz1 hz2 hi0 hh hrz
 go_enter Tryz.func82,Tryz.ntmps82
 go_wp2_with (at_builtin;refine Lib.wpList_append_run _ rfl _ _ _ _ rfl _ _ rfl rfl _ _ HRZ.out ?_)
 go_region
 go_wp2
 go_ret
 exact HF.out
theorem xins_any (C:Nat) (w:World) (v:Value) (xs:Xs) (i:Nat) (hi:i≤xs.length) (x:List UInt8×List UInt8) (hl:xs.length≤1000) (hrow:w.ownsRow C 123 2 v xs.length (xcells xs)) (vb:Nat) (hvb:w.heap[vb]? =some (.cells (xpair x).toArray 123)) (hne:vb ∉ ob v) (hC:C≤w.heap.size):
 Calls Tryz.prog 82 #[v,.int .i64 (i:Int),.slice (some ⟨vb,0,none⟩) 1 1] w (InsPost C w v xs i x):=by
 by_cases h:i=xs.length
 · rw[h];exact xins_end C w v xs x hl hrow vb hvb hC
 · obtain⟨_,⟨_,h0⟩|⟨g,cap,cur,rfl,h1,h2,h3,h4,h5,h6⟩⟩:=hrow
   · omega
   · have hng:vb≠g:=by simpa [ob,Value.ownBlock] using hne
     by_cases hr:xs.length+1≤cap
     · exact xins_shift C w g cap cur xs i (by omega) x hl h1 h2 hr h4 h5 h6 vb hvb hng
     · exact xins_grow C w g cap cur xs i (by omega) x hl h2 h3 (by omega) h6 vb hvb hC
end Go.Proofs.YtnmejonfdfdegaaGreatDoor.Sr
