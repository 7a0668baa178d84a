import Derived.Test.YtnmejonfdfdegaaGreatDoorZPZz
import Derived.Test.YtnmejonfdfdegaaGreatDoorZPRtMake
import Derived.Test.YtnmejonfdfdegaaGreatDoorZPRtCheck
import Derived.Test.YtnmejonfdfdegaaGreatDoorZPSrAttr
set_option linter.unusedSimpArgs false
set_option linter.unusedVariables false
set_option maxHeartbeats 16000000
set_option maxRecDepth 100000
namespace Go.Proofs.YtnmejonfdfdegaaGreatDoor.Sr
open Go.RowKit Go.Maps Go.WideMaps Rf Go.Proofs.YtnmejonfdfdegaaGreatDoor.Nm St
open Lib (hid)
theorem attr_row {B:Nat} {w:World} {g cap i:Nat} {R:List RN} {n:RN} (h:w.ownsRow B RnT 11 (.slice (some ⟨g,0,none⟩) R.length cap) R.length (rcells R)) (hn:R[i]? =some n) (A:XA) (xv:Value):
 (w.setCells g (i*11+1) (A.cells xv)).ownsRow B RnT 11 (.slice (some ⟨g,0,none⟩) R.length cap) R.length (rcells (R.set i {n with at_:=A,xv:=xv}))∧w.there g (i*11+1) 7:=by
 have hi:=(List.getElem?_eq_some_iff.1 hn).1
 constructor
 · have h0:=h
   have h1:=(row_cell h0 (k:=i*11+1) (by omega) (.int .u8 (A.node:Int))).1
   rw[rcells_set (n':=({n with at_:=({n.at_ with node:=A.node}:XA)}:RN)) rfl (by omega) hn] at h1
   have h2:=(row_cell h1 (k:=i*11+2) (by omega) (.int .u32 (A.mode:Int))).1
   rw[rcells_set (n':=({n with at_:=({n.at_ with node:=A.node,mode:=A.mode}:XA)}:RN)) rfl (by omega) (List.getElem?_set_self hi:(R.set i ({n with at_:=({n.at_ with node:=A.node}:XA)}:RN))[i]? =some ({n with at_:=({n.at_ with node:=A.node}:XA)}:RN)),List.set_set] at h2
   have h3:=(row_cell h2 (k:=i*11+3) (by omega) (.int .u32 (A.uid:Int))).1
   rw[rcells_set (n':=({n with at_:=({n.at_ with node:=A.node,mode:=A.mode,uid:=A.uid}:XA)}:RN)) rfl (by omega) (List.getElem?_set_self hi:(R.set i ({n with at_:=({n.at_ with node:=A.node,mode:=A.mode}:XA)}:RN))[i]? =some ({n with at_:=({n.at_ with node:=A.node,mode:=A.mode}:XA)}:RN)),List.set_set] at h3
   have h4:=(row_cell h3 (k:=i*11+4) (by omega) (.int .u32 (A.gid:Int))).1
   rw[rcells_set (n':=({n with at_:=({n.at_ with node:=A.node,mode:=A.mode,uid:=A.uid,gid:=A.gid}:XA)}:RN)) rfl (by omega) (List.getElem?_set_self hi:(R.set i ({n with at_:=({n.at_ with node:=A.node,mode:=A.mode,uid:=A.uid}:XA)}:RN))[i]? =some ({n with at_:=({n.at_ with node:=A.node,mode:=A.mode,uid:=A.uid}:XA)}:RN)),List.set_set] at h4
   have h5:=(row_cell h4 (k:=i*11+5) (by omega) (.int .i64 A.mtime)).1
   rw[rcells_set (n':=({n with at_:=({n.at_ with node:=A.node,mode:=A.mode,uid:=A.uid,gid:=A.gid,mtime:=A.mtime}:XA)}:RN)) rfl (by omega) (List.getElem?_set_self hi:(R.set i ({n with at_:=({n.at_ with node:=A.node,mode:=A.mode,uid:=A.uid,gid:=A.gid}:XA)}:RN))[i]? =some ({n with at_:=({n.at_ with node:=A.node,mode:=A.mode,uid:=A.uid,gid:=A.gid}:XA)}:RN)),List.set_set] at h5
   have h6:=(row_cell h5 (k:=i*11+6) (by omega) (.string ⟨A.target.toArray⟩)).1
   rw[rcells_set (n':=({n with at_:=({n.at_ with node:=A.node,mode:=A.mode,uid:=A.uid,gid:=A.gid,mtime:=A.mtime,target:=A.target}:XA)}:RN)) rfl (by omega) (List.getElem?_set_self hi:(R.set i ({n with at_:=({n.at_ with node:=A.node,mode:=A.mode,uid:=A.uid,gid:=A.gid,mtime:=A.mtime}:XA)}:RN))[i]? =some ({n with at_:=({n.at_ with node:=A.node,mode:=A.mode,uid:=A.uid,gid:=A.gid,mtime:=A.mtime}:XA)}:RN)),List.set_set] at h6
   have h7:=(row_cell h6 (k:=i*11+7) (by omega) (xv)).1
   rw[rcells_set (n':=({n with at_:=A,xv:=xv}:RN)) rfl (by omega) (List.getElem?_set_self hi:(R.set i ({n with at_:=({n.at_ with node:=A.node,mode:=A.mode,uid:=A.uid,gid:=A.gid,mtime:=A.mtime,target:=A.target}:XA)}:RN))[i]? =some ({n with at_:=({n.at_ with node:=A.node,mode:=A.mode,uid:=A.uid,gid:=A.gid,mtime:=A.mtime,target:=A.target}:XA)}:RN)),List.set_set] at h7
   exact h7
 · intro j hj
   have:=row_cell h (k:=i*11+1+j) (by omega) (.int .i64 0)
   obtain⟨x,hx⟩:=this.2.2
   exact⟨by rw[hx];rfl,this.2.1⟩
theorem setCells_other (w:World) (g o:Nat) (vs:List Value):∀ b,b≠g→(w.setCells g o vs).heap[b]? =w.heap[b]? :=by
 induction vs generalizing w o with
 |nil=>intro b _;rfl
 |cons v r ih=>intro b hb;exact(ih _ _ b hb).trans (Below.heap_setCell _ _ _ _ hb)
theorem upd_srt {L:List TE} (h:SrtT L) {e':TE}:SrtT (updN e' L):=by
 have hm:(updN e' L).map TE.nm=L.map TE.nm:=by
  rw[updN,List.map_map]
  refine List.map_congr_left (fun x _=>?_)
  show(if x.nm=e'.nm then e' else x).nm=x.nm
  split
  · next h=>exact h.symm
  · rfl
 have key:(L.map TE.nm).Pairwise fun a b=>ahd a b=true:=List.pairwise_map.2 h
 rw[←hm] at key
 exact List.pairwise_map.1 key
theorem attr_codes (p:List UInt8) (A:XA) (F:Tr) (h0:splitE p=0) (hc:F.clock < 1099511627776):attrE p A F=match getT (splitL p) F.L with
 |none=>6
 |some n=>if chkA (asOf A n)=false then 1 else 0:=by
 rw[attrE,if_neg (by rw[h0];decide)]
 cases getT (splitL p) F.L with
 |none=>rfl
 |some n=>dsimp only;rw[chgE,if_neg (show ¬ 1099511627776≤F.clock by omega)]
theorem rattr_any (B:Nat) (w:World) (r:Nat) (v:Value) (R:List RN) (F:Tr) (k:Nat) (p:List UInt8) (A:XA) (av:Value) (hT:Tabs w) (hp:p.length≤4611686018427387904) (hX:XsAt w av A.xs) (hXr:∀ b∈xob A.xs av,b≠r) (hg:GoodF k F) (hk:k≤1000) (hc:F.clock≤1000000) (hB:B≤w.heap.size) (h:RTree B w r v R F):
 Calls Tryz.prog 33 #[ptr r,.string ⟨p.toArray⟩,.agg (A.cells av).toArray] w (RPost B w r v R (if attrE p A F=0 then setN p (fun n=>{n with at_:=asOf A n}) F else F) (attrE p A F)):=by
 obtain⟨W,hW⟩:∃ W,W=w.alloc (.cells (A.cells av).toArray AtR):=⟨_,rfl⟩
 have hb0:Below w.heap.size w W:=by rw[hW];exact(Below.refl _ _).alloc (Nat.le_refl _) _
 have hq0:W.heap[w.heap.size]? =some (.cells (A.cells av).toArray AtR):=by rw[hW];exact(MapKept.heap_alloc w _).1
 have H:=hid h
 have H0:=hid (h.below hb0)
 have HT:=hid (hT.below hb0);have HTW:=hid hT
 have HX0:=hid (hX.kept hb0.size (fun b hb=>hb0.block b (hX.lt b hb)))
 have HB0:=hid hb0;have HW:=hid hW;have HG:=hid hg;have HXR:=hid hXr
 have HLTX:Hid (∀ b∈xob A.xs av,b < w.heap.size):=hid hX.lt
 have HQ:Hid (∀ w',Below W.heap.size W w'→w'.heap[w.heap.size]? =some (.cells (A.cells av).toArray AtR)):=hid (fun w' hb=>(hb.block _ (lt_of_heap hq0)).trans hq0)
 have hlen:R.length≤1000000:=by rw[h.len];have:=hg.len;omega
 obtain⟨F2,hF2⟩:∃ F2,F2=if attrE p A F=0 then setN p (fun n=>{n with at_:=asOf A n}) F else F:=⟨_,rfl⟩
 obtain⟨c2,hc2⟩:∃ c2,c2=attrE p A F:=⟨_,rfl⟩
 rw[←hF2,←hc2]
 have NOX:Hid (∀ (w1:World) (c:Int),Below w.heap.size w w1→attrE p A F=c→c≠0→RPost B w r v R F2 c2 (.returned (.int .i64 c)) w1):=hid (fun w1 c hb he hn=>by
  rw[hF2,hc2,if_neg (by rw[he];exact hn),he]
  exact rpost_same H.out hb rfl)
 have YES:Hid (∀ (w1:World),attrE p A F=0→RPost B w r v R (setN p (fun n=>{n with at_:=asOf A n}) F) 0 (.returned (.int .i64 0)) w1→RPost B w r v R F2 c2 (.returned (.int .i64 0)) w1):=hid (fun w1 he h=>by
  rw[hF2,hc2,if_pos he,he];exact h)
 have HCLK:Hid (F.clock < 1099511627776):=hid (by omega)
 have hclk2:((F.clock:Int)==1099511627776)=false:=by rw[beq_eq_false_iff_ne];omega
 have HBL:=hid hB
 have hrb:r < w.heap.size:=lt_of_heap h.book
 obtain⟨ava,avc,rfl⟩:∃ a c,av= .slice a A.xs.length c:=by obtain⟨a,c,rfl,_⟩:=hX;exact⟨_,_,rfl⟩
 obtain⟨va,vc,rfl⟩:=rowS_slice h.row
 have FI:=rfind_any B W r _ R F p HT.out hp HG.out.srt hlen H0.out
 have HRB:=hid hrb
 clear hb0 hq0 hW h hT hX hg hB hXr hF2 hc2 hrb
 have hfe0:findE p F.L=if splitE p=0 then(if (getT (splitL p) F.L).isSome then 0 else 6) else 10:=rfl
 rcases(splitE_cases p).symm with⟨h0,_⟩|h0
 · have HC:=hid (show attrE p A F=10 by rw[attrE,if_pos (by rw[h0];decide)])
   have hfe:findE p F.L=10:=by rw[hfe0,if_neg (by rw[h0];decide)]
   have hfi:rfindI p F.L=0:=rfind_no (by rw[hfe];decide)
   rw[hfi,hfe] at FI
   have FI:=hid FI
   unfold ptr at*
   clear h0 hfe hfi hfe0
   go_enter Tryz.func33,Tryz.ntmps33
   go_wp2_with fail
   rw[←HW.out]
   refine FI.out.mono ?_
   rintro ex w2 ⟨rfl,hb2⟩
   have HB2:=hid (HB0.out.trans (hb2.mono HB0.out.size))
   clear hb2 FI
   go_wp2
   go_ret
   exact NOX.out _ _ HB2.out HC.out (by decide)
 have HS0:=hid h0
 have HWC:=hid (attr_codes p A F HS0.out HCLK.out)
 rw[if_pos h0] at hfe0
 clear h0
 rcases Option.eq_none_or_eq_some (getT (splitL p) F.L) with hg|⟨e0,hg⟩
 · have HC:=hid (show attrE p A F=6 by rw[HWC.out,hg])
   have hfe:findE p F.L=6:=by rw[hfe0,hg];rfl
   have hfi:rfindI p F.L=0:=rfind_no (by rw[hfe];decide)
   rw[hfi,hfe] at FI
   have FI:=hid FI
   unfold ptr at*
   clear hg hfe hfi HWC hfe0
   go_enter Tryz.func33,Tryz.ntmps33
   go_wp2_with fail
   rw[←HW.out]
   refine FI.out.mono ?_
   rintro ex w2 ⟨rfl,hb2⟩
   have HB2:=hid (HB0.out.trans (hb2.mono HB0.out.size))
   clear hb2 FI
   go_wp2
   go_ret
   exact NOX.out _ _ HB2.out HC.out (by decide)
 have hfe:findE p F.L=0:=by rw[hfe0,hg];rfl
 obtain⟨i,e,hfi,hi,hen,hg',_⟩:=rfind_yes HG.out.srt hfe
 obtain rfl:e=e0:=by rw[hg] at hg';exact(Option.some.inj hg').symm
 rw[hfi,hfe] at FI
 have FI:=hid FI
 obtain⟨n,hn,hne⟩:=H.out.get hi
 have hil:i < R.length:=(List.getElem?_eq_some_iff.1 hn).1
 have HGE:=hid hg;have HI:=hid hi;have HN:=hid hn;have HNE:=hid hne;have HEN:=hid hen
 obtain⟨A2,hA2⟩:∃ A2:XA,A2=asOf A e:=⟨_,rfl⟩
 have hA2n:A2={A with node:=n.at_.node,target:=n.at_.target}:=by rw[hA2,asOf,←hne];rfl
 have HA2:=hid hA2;have HA2N:=hid hA2n
 have HWD:=hid (show attrE p A F=if chkA A2=false then 1 else 0 by rw[HWC.out,hg,hA2])
 have hilt:(i:Int) < (R.length:Int):=by omega
 obtain⟨gv,cap,hv,hgv⟩:=H.out.form (by omega)
 injection hv with e1 e2 e3
 subst e1 e3
 have KS:Hid (∀ w2,Below w.heap.size w w2→w2.cell? ⟨r,0,none⟩=some (.slice (some ⟨gv,0,none⟩) R.length vc)∧w2.cell? ⟨r,1,none⟩=some (.int .i64 (F.clock:Int))∧w2.frozen? ⟨r,1,none⟩=false∧w2.cell? ⟨gv,i*11+1,none⟩=some (.int .u8 (n.at_.node:Int))∧w2.cell? ⟨gv,i*11+1+5,none⟩=some (.string ⟨n.at_.target.toArray⟩)):=hid (fun w2 hb=>by
  have HX:=H.out.below hb
  exact⟨cell_of_heap HX.book,cell_of_heap HX.book,frozen_of_heap HX.book,HX.ent HN.out 1 _ rfl,HX.ent HN.out 6 _ rfl⟩)
 have hgr:gv≠r:=H.out.off gv (by simp[ob,Value.ownBlock])
 have hgvw:gv < w.heap.size:=hgv
 unfold ptr at*
 clear hg hg' hfe hfi HWC hi hn hne hen e2 hfe0 hA2 hA2n
 go_enter Tryz.func33,Tryz.ntmps33
 go_wp2_with fail
 rw[←HW.out]
 refine FI.out.mono ?_
 rintro ex w2 ⟨rfl,hb2⟩
 have HB2W:=hid hb2
 have HB2:=hid (HB0.out.trans (hb2.mono HB0.out.size))
 have hq2:=HQ.out w2 hb2
 clear hb2 FI
 obtain⟨c0,c1,f1,cn,ct⟩:=KS.out w2 HB2.out
 have b0:w2.cell? ⟨w.heap.size,0,none⟩=some (.int .u8 (A.node:Int)):=cell_of_heap hq2
 have bf0:w2.frozen? ⟨w.heap.size,0,none⟩=false:=frozen_of_heap hq2
 -- the box:the node's kind,then its target
 obtain⟨W3,hW3⟩:∃ W3,W3=(w2.setCell ⟨w.heap.size,0,none⟩ (.int .u8 (n.at_.node:Int))).setCell ⟨w.heap.size,5,none⟩ (.string ⟨n.at_.target.toArray⟩):=⟨_,rfl⟩
 have hq2a:(w2.setCell ⟨w.heap.size,0,none⟩ (.int .u8 (n.at_.node:Int))).heap[w.heap.size]? =some (.cells (({A with node:=n.at_.node}:XA).cells (.slice ava A.xs.length avc)).toArray AtR):=by rw[setCell_heap _ _ _ _ _ _ hq2];rfl
 have hq3:W3.heap[w.heap.size]? =some (.cells (A2.cells (.slice ava A2.xs.length avc)).toArray AtR):=by rw[hW3,setCell_heap _ _ _ _ _ _ hq2a,HA2N.out];rfl
 have hbw:∀ b,b≠w.heap.size→(w2.setCell ⟨w.heap.size,0,none⟩ (.int .u8 (n.at_.node:Int))).heap[b]? =w2.heap[b]? :=fun b hb=>Below.heap_setCell _ _ _ _ hb
 have bc0:(w2.setCell ⟨w.heap.size,0,none⟩ (.int .u8 (n.at_.node:Int))).cell? ⟨r,0,none⟩=some (.slice (some ⟨gv,0,none⟩) R.length vc):=(World.cell?_of_block (a:=⟨r,0,none⟩) (hbw r (by have:=HRB.out;omega))).trans c0
 have bct:(w2.setCell ⟨w.heap.size,0,none⟩ (.int .u8 (n.at_.node:Int))).cell? ⟨gv,i*11+1+5,none⟩=some (.string ⟨n.at_.target.toArray⟩):=(World.cell?_of_block (a:=⟨gv,i*11+1+5,none⟩) (hbw gv (by omega))).trans ct
 have bx5:(w2.setCell ⟨w.heap.size,0,none⟩ (.int .u8 (n.at_.node:Int))).cell? ⟨w.heap.size,5,none⟩=some (.string ⟨A.target.toArray⟩):=cell_of_heap hq2a
 have bf5:(w2.setCell ⟨w.heap.size,0,none⟩ (.int .u8 (n.at_.node:Int))).frozen? ⟨w.heap.size,5,none⟩=false:=frozen_of_heap hq2a
 have hb3:Below w.heap.size w W3:=by rw[hW3];exact(HB2.out.setCell (Nat.le_refl _) _).setCell (Nat.le_refl _) _
 have HB3:=hid hb3;have HQ3:=hid hq3;have HW3:=hid hW3
 have hxs3:XsAt W3 (.slice ava A2.xs.length avc) A2.xs:=by
  rw[HA2N.out]
  exact HX0.out.kept (by rw[hW3,World.size_setCell,World.size_setCell];exact HB2W.out.size) (fun b hb=>by
   have h1:=HLTX.out b hb
   rw[hW3]
   exact(Below.heap_setCell _ _ _ _ (show b≠w.heap.size by omega)).trans ((hbw b (by omega)).trans (HB2W.out.block b (Nat.lt_of_lt_of_le h1 HB0.out.size))))
 have CK:=rchk_any W3 A2 _ (HTW.out.below hb3) hxs3
 rw[chkAE] at CK
 have HXS3:=hid hxs3
 clear hq2 hq2a hb3 hq3 hW3 hxs3 hbw
 rcases(Bool.eq_false_or_eq_true (chkA A2)).symm with hck|hck
 · have HC:=hid (show attrE p A F=1 by rw[HWD.out,if_pos hck])
   rw[hck,if_neg (by decide)] at CK
   have CK:=hid CK
   clear hck
   go_wp2_with (first
    |(refine Sh.wpList_load_at (T:=AtR) (cs:=(A2.cells (.slice ava A2.xs.length avc)).toArray) (by rw[←HW3.out];exact HQ3.out) rfl AtR (.tmp 5) rfl rfl _ Tryz.underlying67 rfl (infoAtR _ _) ?_)
    |fail)
   rw[←HW3.out]
   refine CK.out.mono ?_
   rintro ex w4 ⟨rfl,hb4⟩
   have HB4:=hid (HB3.out.trans (hb4.mono HB3.out.size))
   clear hb4 CK
   go_wp2
   go_ret
   exact NOX.out _ _ HB4.out HC.out (by decide)
 have HC:=hid (show attrE p A F=0 by rw[HWD.out,if_neg (by rw[hck];decide)])
 have HCK:=hid hck
 rw[hck,if_pos rfl] at CK
 have CK:=hid CK
 clear hck
 go_wp2_with (first
  |(refine Sh.wpList_load_at (T:=AtR) (cs:=(A2.cells (.slice ava A2.xs.length avc)).toArray) (by rw[←HW3.out];exact HQ3.out) rfl AtR (.tmp 5) rfl rfl _ Tryz.underlying67 rfl (infoAtR _ _) ?_)
  |fail)
 rw[←HW3.out]
 refine CK.out.mono ?_
 rintro ex w4 ⟨rfl,hb4⟩
 have HB4:=hid (HB3.out.trans (hb4.mono HB3.out.size))
 have hq4:=(hb4.block _ (lt_of_heap HQ3.out)).trans HQ3.out
 have hxs4:=HXS3.out.kept hb4.size (fun b hb=>hb4.block b (HXS3.out.lt b hb))
 clear hb4 CK c0 c1 f1 cn ct b0 bf0 bc0 bct bx5 bf5
 obtain⟨c0,c1,f1,cn,ct⟩:=KS.out w4 HB4.out
 -- the clock
 obtain⟨cc,hcc⟩:∃ cc:Int,cc=((F.clock+1:Nat):Int):=⟨_,rfl⟩
 have hcl:(F.clock:Int)+1=cc:=by rw[hcc];omega
 obtain⟨W5,hW5⟩:∃ W5,W5=w4.setCell ⟨r,1,none⟩ (.int .i64 ((F.clock:Int)+1)):=⟨_,rfl⟩
 have hX5:RTree B W5 r (.slice (some ⟨gv,0,none⟩) R.length vc) R {F with clock:=F.clock+1}:=by
  have:=(H.out.below HB4.out).clocked (F.clock+1)
  rw[←hcc,←hcl,←hW5] at this;exact this
 have hq5:W5.heap[w.heap.size]? =some (.cells (A2.cells (.slice ava A2.xs.length avc)).toArray AtR):=by rw[hW5];exact(Below.heap_setCell _ _ _ _ (show w.heap.size≠r by have:=HRB.out;omega)).trans hq4
 have hxs5:XsAt W5 (.slice ava A2.xs.length avc) A2.xs:=hxs4.kept (by rw[hW5,World.size_setCell];exact Nat.le_refl _) (fun b hb=>by
  rw[hW5];exact Below.heap_setCell _ _ _ _ (HXR.out b (by rw[HA2N.out] at hb;exact hb)))
 have hxl:A2.xs.length≤1000:=by have:=(chkA_parts HCK.out).2.2.1;omega
 have OW:=hid (rown_any W5.drew A2 _ (hxs5.kept (Nat.le_refl _) (fun _ _=>rfl)) hxl)
 have HX5:=hid hX5;have HW5:=hid hW5;have HCC:=hid hcc;have HQ5:=hid hq5
 have HS5:Hid (W5.heap.size=w4.heap.size):=hid (by rw[hW5,World.size_setCell])
 have KW:Hid (∀ w',Below W5.heap.size W5 w'→w'.rangeAt w.heap.size 0 (A2.cells (.slice ava A2.xs.length avc))∧w'.cell? ⟨r,0,none⟩=some (.slice (some ⟨gv,0,none⟩) R.length vc)∧w'.cell? ⟨r,1,none⟩=some (.int .i64 cc)):=hid (fun w' hb=>by
  have hx:=(HX5.out.below hb).book
  exact⟨range_block ((hb.block _ (lt_of_heap HQ5.out)).trans HQ5.out),cell_of_heap hx,(cell_of_heap hx).trans (by rw[HCC.out];rfl)⟩)
 have HAI:Hid ((Tryz.prog.info? AtR).map (·.size)=some (A2.cells (.slice ava A2.xs.length avc)).length):=hid (by show _=some 7;kernel_rfl)
 clear hX5 hW5 hcc hcl hq4 hq5 hxs4 hxs5
 go_upto_region 11 with(fail)
 rw[←HW5.out]
 refine wp_region_held_drew (S:=(fun w':World=>w'.rangeAt w.heap.size 0 (A2.cells (.slice ava A2.xs.length avc))∧w'.cell? ⟨r,0,none⟩=some (.slice (some ⟨gv,0,none⟩) R.length vc)∧w'.cell? ⟨r,1,none⟩=some (.int .i64 cc))) (by kernel_rfl) (KW.out _ (Below.refl _ _).drew) (fun zh=>?_)
 iterate 5
  first|refine' tj 0 rfl rfl (fun _ _ _ h=>h) ?_ zh ?_|refine' tj 1 rfl rfl (fun _ _ _ h=>h) ?_ zh ?_|refine' tj 2 rfl rfl (fun _ _ _ h=>h) ?_ zh ?_|refine' tj 3 rfl rfl (fun _ _ _ h=>h) ?_ zh ?_|refine' tj 4 rfl rfl (fun _ _ _ h=>h) ?_ zh ?_
  rotate_left
  · intro wS hS;obtain⟨k0,k1,k2⟩:=hS;go_simp;try rfl
  try simp only[Act.put,zA,zB,zC,zD,zE,zF]
 refine' wpAnyH_take (i:=5) (v:=_) rfl (by kernel_rfl) (by kernel_rfl) (by kernel_rfl) (fun _ _ _ h=>h) (yieldsIf_load_mid (by rfl) _ _ rfl w.heap.size 0 rfl (A2.cells (.slice ava A2.xs.length avc)) _ ?at5S ?at5u ?at5d ?at5i) zh ?at5x
 case at5S=>intro wS hS;obtain⟨k0,k1,k2⟩:=hS;exact k0
 case at5u=>exact Tryz.underlying67
 case at5d=>rfl
 case at5i=>exact HAI.out
 try simp only[Act.put,zA,zB,zC,zD,zE,zF]
 refine wpAnyH_ready (rs:=[6]) (by kernel_rfl) (by simp) ?_
 refine AllReadyH.cons rfl (fun K hK=>?_) AllReadyH.nil
 go_simp
 refine OW.out.mono ?_
 rintro ez wz ⟨vz,rfl,hxz,hgz,hbz⟩
 have HXZ:=hid hxz;have HGZ:=hid hgz
 have HBZ:Hid (Below W5.heap.size W5 wz):=hid ((Below.refl W5.heap.size W5).drew.trans hbz)
 obtain⟨oa,oc,rfl⟩:∃ a c,vz= .slice a A2.xs.length c:=by obtain⟨a,c,h,_⟩:=hxz;exact⟨a,c,h⟩
 clear hbz hxz hgz
 go_wp2_with fail
 refine hK.out _ _ (KW.out _ HBZ.out) ?_
 clear hK K zh
 intro zh
 try simp only[Act.put,zA,zB,zC,zD,zE,zF]
 iterate 2
  first|refine' tj 7 rfl rfl (fun _ _ _ h=>h) ?_ zh ?_|refine' tj 8 rfl rfl (fun _ _ _ h=>h) ?_ zh ?_
  rotate_left
  · intro wS hS;obtain⟨k0,k1,k2⟩:=hS;go_simp;try rfl
  try simp only[Act.put,zA,zB,zC,zD,zE,zF]
 refine wpAnyH_ready (rs:=[9]) (by kernel_rfl) (by simp) ?_
 refine AllReadyH.cons rfl (fun K hK=>?_) AllReadyH.nil
 have hXZ:=HX5.out.below HBZ.out
 obtain⟨har1,har2⟩:=attr_row hXZ.row HN.out A2 (.slice oa A2.xs.length oc)
 have HAR1:=hid har1;have HAR2:=hid har2;clear hXZ har1 har2
 refine wp_store_mid AtR (.tmp 61) (.tmp 59) rfl gv (i*11+1) (A2.cells (.slice oa A2.xs.length oc)).toArray rfl rfl HAR2.out (infoAtR _ _) (atOne A2 rfl) ?_
 refine hK.out _ _ (by have hk:∀ b,b≠gv→(wz.setCells gv (i*11+1) (A2.cells (.slice oa A2.xs.length oc))).heap[b]? =wz.heap[b]? :=setCells_other _ _ _ _;obtain⟨q0,q1,q2⟩:=KW.out wz HBZ.out;exact⟨fun j u hj=>(World.cell?_of_block (a:=⟨w.heap.size,0+j,none⟩) (hk _ (show w.heap.size≠gv by omega))).trans (q0 j u hj),(World.cell?_of_block (a:=⟨r,0,none⟩) (hk r (Ne.symm hgr))).trans q1,(World.cell?_of_block (a:=⟨r,1,none⟩) (hk r (Ne.symm hgr))).trans q2⟩) ?_
 clear hK K zh
 intro zh
 try simp only[Act.put,zA,zB,zC,zD,zE,zF]
 refine wpAnyH_done (by kernel_rfl) ?_ _
 clear zh
 try simp only[Act.put,zA,zB,zC,zD,zE,zF]
 obtain⟨W6,hW6⟩:∃ W6,W6=wz.setCells gv (i*11+1) (A2.cells (.slice oa A2.xs.length oc)):=⟨_,rfl⟩
 have hk6:∀ b,b≠gv→W6.heap[b]? =wz.heap[b]? :=by rw[hW6];exact setCells_other _ _ _ _
 have hs6:wz.heap.size≤W6.heap.size:=by rw[hW6];exact(turn_setCells _ _ _ _).size
 have hgo:∀ b∈xob A2.xs (.slice oa A2.xs.length oc),W5.heap.size≤b:=fun b hb=>HGZ.out b hb
 have hgvz:gv < W5.heap.size:=by have h1:=HS5.out;have h2:=HB4.out.size;omega
 have hX6:=(HX5.out.below HBZ.out).setNode HN.out {n with at_:=A2,xv:= .slice oa A2.xs.length oc} (by rw[hW6];exact HAR1.out) hk6 hs6 ⟨rfl,rfl⟩ (HXZ.out.kept hs6 (fun b hb=>hk6 b (by have:=hgo b hb;omega))) (fun b hb=>by
  have h1:=hgo b hb
  have h2:=HS5.out;have h3:=HB4.out.size;have h4:=HBL.out;have h5:=HRB.out
  exact⟨by omega,by omega,by omega⟩)
 have hn2:(R.set i {n with at_:=A2,xv:= .slice oa A2.xs.length oc})[i]? =some {n with at_:=A2,xv:= .slice oa A2.xs.length oc}:=by rw[List.getElem?_set_self hil]
 have hrow:(R.set i {n with at_:=A2,xv:= .slice oa A2.xs.length oc}).length=R.length:=List.length_set
 have hX6':=hX6
 rw[←hrow] at hX6'
 obtain⟨ht1,ht2,⟨xt,ht3⟩,ht4⟩:=hX6'.ticked hn2 cc
 rw[hrow] at ht1
 have HX6:=hid hX6;have HT1:=hid ht1;have HT4:=hid ht4;have HW6:=hid hW6;have HK6:=hid hk6;have HS6:=hid hs6;have HGO:=hid hgo
 have KX:Hid (W6.drew.cell? ⟨r,0,none⟩=some (.slice (some ⟨gv,0,none⟩) R.length vc)∧W6.drew.cell? ⟨r,1,none⟩=some (.int .i64 cc)):=hid ⟨cell_of_heap hX6.book,(cell_of_heap hX6.book).trans (by rw[HCC.out];rfl)⟩
 clear hX6 hX6' ht1 ht4 hn2 hrow hk6 hs6 hgo
 rw[←hW6]
 clear hW6
 go_upto_region 12 with(fail)
 refine wp_region_held_drew (S:=(fun w':World=>w'.cell? ⟨r,0,none⟩=some (.slice (some ⟨gv,0,none⟩) R.length vc)∧w'.cell? ⟨r,1,none⟩=some (.int .i64 cc))) (by kernel_rfl) KX.out (fun zh=>?_)
 iterate 11
  first|refine' tj 0 rfl rfl (fun _ _ _ h=>h) ?_ zh ?_|refine' tj 1 rfl rfl (fun _ _ _ h=>h) ?_ zh ?_|refine' tj 2 rfl rfl (fun _ _ _ h=>h) ?_ zh ?_|refine' tj 3 rfl rfl (fun _ _ _ h=>h) ?_ zh ?_|refine' tj 4 rfl rfl (fun _ _ _ h=>h) ?_ zh ?_|refine' tj 5 rfl rfl (fun _ _ _ h=>h) ?_ zh ?_|refine' tj 6 rfl rfl (fun _ _ _ h=>h) ?_ zh ?_|refine' tj 7 rfl rfl (fun _ _ _ h=>h) ?_ zh ?_|refine' tj 8 rfl rfl (fun _ _ _ h=>h) ?_ zh ?_|refine' tj 9 rfl rfl (fun _ _ _ h=>h) ?_ zh ?_|refine' tj 10 rfl rfl (fun _ _ _ h=>h) ?_ zh ?_
  rotate_left
  · intro wS hS;obtain⟨k0,k1⟩:=hS;go_simp;try rfl
  try simp only[Act.put,zA,zB,zC,zD,zE,zF]
 refine wpAnyH_ready (rs:=[11]) (by kernel_rfl) (by simp) ?_
 refine AllReadyH.cons rfl (fun K hK=>?_) AllReadyH.nil
 go_simp
 refine hK.out _ _ (by obtain⟨q0,q1⟩:=KX.out;exact⟨(World.cell?_of_block (a:=⟨r,0,none⟩) (Below.heap_setCell _ _ _ _ (Ne.symm hgr))).trans q0,(World.cell?_of_block (a:=⟨r,1,none⟩) (Below.heap_setCell _ _ _ _ (Ne.symm hgr))).trans q1⟩) ?_
 clear hK K zh
 intro zh
 try simp only[Act.put,zA,zB,zC,zD,zE,zF]
 refine wpAnyH_done (by kernel_rfl) ?_ _
 clear zh
 try simp only[Act.put,zA,zB,zC,zD,zE,zF]
 have FINAL:Hid (RPost B w r (.slice (some ⟨gv,0,none⟩) R.length vc) R (setN p (fun n=>{n with at_:=asOf A n}) F) 0 (.returned (.int .i64 0)) (W6.setCell ⟨gv,i*11+10,none⟩ (.int .i64 cc)).drew):=by
  refine hid ⟨rfl,.slice (some ⟨gv,0,none⟩) R.length vc,(R.set i {n with at_:=A2,xv:= .slice oa A2.xs.length oc}).set i {n with at_:=A2,xv:= .slice oa A2.xs.length oc,tick:=cc},?_,?_,fun b hb=>?_,fun _ hb=> .inl hb⟩
  · have h1:=HT1.out.drew
    have hL:(F.L.set i (RN.te {n with at_:=A2,xv:= .slice oa A2.xs.length oc})).set i {RN.te {n with at_:=A2,xv:= .slice oa A2.xs.length oc} with tick:=cc}=tickN [splitL p] ((F.clock+1:Nat):Int) (updN {e with at_:=asOf A e} F.L):=by
     have hs:=set_upd (e':={e with at_:=asOf A e}) HG.out.srt HI.out rfl
     have hne:=HNE.out
     have h2:(updN {e with at_:=asOf A e} F.L)[i]? =some {e with at_:=asOf A e}:=by
      rw[←hs,List.getElem?_set_self (List.getElem?_eq_some_iff.1 HI.out).1]
     have ht:(updN {e with at_:=asOf A e} F.L).set i {({e with at_:=asOf A e}:TE) with tick:=cc}=tickN [e.nm] cc (updN {e with at_:=asOf A e} F.L):=set_tick (upd_srt HG.out.srt) h2 cc
     rw[←HCC.out,←HEN.out,←ht,←hs,←HA2.out,←hne];rfl
    have hS:setN p (fun n=>{n with at_:=asOf A n}) F={F with clock:=F.clock+1,L:=tickN [splitL p] ((F.clock+1:Nat):Int) (updN {e with at_:=asOf A e} F.L)}:=by
     rw[setN,HGE.out]
    rw[hS,←hL]
    exact h1
  · have e1:Turn (r::ob (.slice (some ⟨gv,0,none⟩) R.length vc)) w w4:=Turn.of_below HB4.out
    have e2:=e1.setCell (p:=⟨r,1,none⟩) (.inl (by simp)) (.int .i64 ((F.clock:Int)+1))
    rw[←HW5.out] at e2
    have e3:=e2.trans (Turn.of_below (X:=[]) HBZ.out) (fun y hy=>nomatch hy)
    have e4:=e3.trans (turn_setCells wz gv (i*11+1) (A2.cells (.slice oa A2.xs.length oc))) (fun y hy=> .inl (by simp at hy;simp[ob,Value.ownBlock,hy]))
    rw[←HW6.out] at e4
    exact(e4.setCell (p:=⟨gv,i*11+10,none⟩) (.inl (by simp[ob,Value.ownBlock])) (.int .i64 cc)).drew
  · rw[rblk,List.mem_cons,List.mem_append] at hb
    rw[rblk,List.mem_cons,List.mem_append]
    rcases hb with hb|hb|hb
    · exact .inl (.inl hb)
    · exact .inl (.inr (.inl hb))
    · have h4:=HT4.out
      rw[h4] at hb
      rcases set_mem_rob (n':={n with at_:=A2,xv:= .slice oa A2.xs.length oc}) HN.out rfl hb with hb|hb
      · exact .inl (.inr (.inr hb))
      · have h1:=HGO.out b hb;have h2:=HS5.out;have h3:=HB4.out.size
        exact .inr (by omega)
 go_wp2
 go_ret
 exact YES.out _ HC.out FINAL.out
theorem undSt:Tryz.prog.underlying 57=some (.slice (Tryz.prog.elem 57)):=by kernel_rfl
theorem sizeSt (w:World):(sizeOf (Tryz.prog.elem 57)).run Tryz.prog w= .ok 1 w:=by kernel_rfl
theorem exec_front {o:Oper} {a:Act} {w:World} (x h:Operand) (g n c k:Nat) (ho:o.op= .slice 57 x none (some h) none) (hx:a.eval x= .slice (some ⟨g,0,none⟩) n c) (hh:a.eval h= .int .i64 (k:Int)) (hk:k≤c):
 (execOp a.eval o).run Tryz.prog w= .ok (.value (.slice (some ⟨g,0,none⟩) k c)) w:=by
 have hr:(Instr.slice 57 (.slice (some ⟨g,0,none⟩) n c) none (some (.int .i64 (k:Int))) none).run Tryz.prog w= .ok (.slice (some ⟨g,0,none⟩) k c) w:=by
  rw[run_slice_h w _ _ _ _ undSt .i64 _ (by omega) (by omega),sizeSt]
  simp only[Result.andThen,sliced,Int.toNat_natCast,Nat.zero_mul,Nat.sub_zero,Option.map_some,Addr.add_lit,Nat.add_zero]
  split <;> rfl
 unfold execOp
 simp only[ho,hx,hh,Option.map_none,Option.map_some,Sem.run_bind,run_sliceAt_slice w _ _ _ _ _ undSt,hr,Result.andThen_ok]
 rfl
def offR (l:PN) (R:List RN):List RN:=R.filter fun m=> !l.isPrefixOf m.nm
theorem offR_te (l:PN) (R:List RN):(offR l R).map RN.te=dropT l (R.map RN.te):=by
 rw[offR,dropT,List.filter_map];rfl
theorem offR_more {l:PN} {R:List RN} {i:Nat} {y:RN} (h:R[i]? =some y):offR l (R.take (i+1))=offR l (R.take i)++(if l.isPrefixOf y.nm then [] else [y]):=by
 rw[List.take_add_one,h,offR,List.filter_append]
 cases hp:l.isPrefixOf y.nm <;> simp[offR,hp]
theorem offR_len (l:PN) (R:List RN):(offR l R).length≤R.length:=List.length_filter_le _ _
theorem offR_rob {l:PN} {R:List RN} {b:Nat} (h:b∈robL (offR l R)):b∈robL R:=by
 obtain⟨m,hm,hb⟩:=List.mem_flatMap.1 h
 exact robL_mem (List.mem_filter.1 hm).1 hb
theorem drop_tick (l m:PN) (c:Int) (L:List TE):dropT l (tickN [m] c L)=tickN [m] c (dropT l L):=by
 rw[dropT,tickN,List.filter_map,dropT,tickN]
 congr 1
 refine List.filter_congr (fun x _=>?_)
 show(!l.isPrefixOf (if x.nm∈[m] then({x with tick:=c}:TE) else x).nm)=_
 split <;> rfl
theorem drop_codes (p:List UInt8) (F:Tr) (h0:splitE p=0) (hc:F.clock < 1099511627776):dropE p F=match getT (splitL p) F.L with
 |none=>6
 |some _=>if splitL p=[] then 1 else 0:=by
 rw[dropE,if_neg (by rw[h0];decide)]
 cases getT (splitL p) F.L with
 |none=>rfl
 |some n=>dsimp only;rw[if_neg (show ¬ 1099511627776≤F.clock by omega)]
theorem drop_end {B:Nat} {w w1:World} {r gv vc:Nat} {vo:Value} {R R1:List RN} {F:Tr} {l:PN} (h:RTree B w r (.slice (some ⟨gv,0,none⟩) R.length vc) R F) (hBw:B≤w.heap.size) (hT:Turn (r::ob (.slice (some ⟨gv,0,none⟩) R.length vc)) w w1) {N:Nat} (hN:w.heap.size≤N) {F1:Tr} {v1:Value} (h1:RTree B w1 r v1 R1 F1) (hrob:robL R1=robL R) (ho:w1.ownsRow N RnT 11 vo (offR l R1).length (rcells (offR l R1))):
 RPost B w r (.slice (some ⟨gv,0,none⟩) R.length vc) R {F1 with L:=dropT l F1.L} 0 (.returned (.int .i64 0)) (w1.setCell ⟨r,0,none⟩ vo):=by
 have hr:=lt_of_heap h.book
 have hge:∀ b∈ob vo,w.heap.size≤b:=fun b hb=>Nat.le_trans hN (rowS_ge ho b hb)
 have hap:∀ b∈robL (offR l R1),B≤b∧b≠r∧b ∉ ob vo:=fun b hb=>by
  have hb:=offR_rob hb
  rw[hrob] at hb
  refine⟨(h.apart b hb).1,(h.apart b hb).2.1,fun hv=>?_⟩
  have:=hge b hv
  have:=h.lt b (by rw[rblk,List.mem_cons,List.mem_append];exact .inr (.inr hb))
  omega
 have:=rtree_relist (F:=F1) h1.book (row_mono ho (Nat.le_trans hBw hN)) (fun hv=>by have:=hge r hv;omega) h.base (fun m hm=>h1.node m (List.mem_filter.1 hm).1) hap
 rw[offR_te,←h1.is] at this
 refine⟨rfl,vo,offR l R1,this,hT.setCell (p:=⟨r,0,none⟩) (.inl (by simp)) vo,fun b hb=>?_,fun b hb=> .inr (hge b hb)⟩
 rw[rblk,List.mem_cons,List.mem_append] at hb
 rcases hb with rfl|hb|hb
 · exact .inl (by simp[rblk])
 · exact .inr (hge b hb)
 · have hb:=offR_rob hb
   rw[hrob] at hb
   exact .inl (by rw[rblk,List.mem_cons,List.mem_append];exact .inr (.inr hb))
theorem rdrop_any (B:Nat) (w:World) (r:Nat) (v:Value) (R:List RN) (F:Tr) (k:Nat) (p:List UInt8) (hT:Tabs w) (hp:p.length≤4611686018427387904) (hg:GoodF k F) (hk:k≤1000) (hc:F.clock≤1000000) (hB:B≤w.heap.size) (h:RTree B w r v R F):
 Calls Tryz.prog 32 #[ptr r,.string ⟨p.toArray⟩] w (RPost B w r v R (if dropE p F=0 then dropN p F else F) (dropE p F)):=by
 obtain⟨i0,hi0,hz0,hz1,hz2⟩:=info_parts infoRn
 have hz3:zeroRn.cells.size=11:=by kernel_rfl
 have H:=hid h
 have HG:=hid hg;have HBL:=hid hB
 have hlen:R.length≤1000000:=by rw[h.len];have:=hg.len;omega
 have HLEN:=hid hlen
 obtain⟨F2,hF2⟩:∃ F2,F2=if dropE p F=0 then dropN p F else F:=⟨_,rfl⟩
 obtain⟨c2,hc2⟩:∃ c2,c2=dropE p F:=⟨_,rfl⟩
 rw[←hF2,←hc2]
 have NOX:Hid (∀ (w1:World) (c:Int),Below w.heap.size w w1→dropE p F=c→c≠0→RPost B w r v R F2 c2 (.returned (.int .i64 c)) w1):=hid (fun w1 c hb he hn=>by
  rw[hF2,hc2,if_neg (by rw[he];exact hn),he]
  exact rpost_same H.out hb rfl)
 have YES:Hid (∀ (w1:World),dropE p F=0→RPost B w r v R (dropN p F) 0 (.returned (.int .i64 0)) w1→RPost B w r v R F2 c2 (.returned (.int .i64 0)) w1):=hid (fun w1 he h=>by
  rw[hF2,hc2,if_pos he,he];exact h)
 have HCLK:Hid (F.clock < 1099511627776):=hid (by omega)
 have hclk2:((F.clock:Int)==1099511627776)=false:=by rw[beq_eq_false_iff_ne];omega
 obtain⟨va,vc,rfl⟩:=rowS_slice h.row
 have FI:=rfind_any B w r _ R F p hT hp hg.srt hlen h
 clear h hT hg hF2 hc2 hB
 have hfe0:findE p F.L=if splitE p=0 then(if (getT (splitL p) F.L).isSome then 0 else 6) else 10:=rfl
 rcases(splitE_cases p).symm with⟨h0,_⟩|h0
 · have HC:=hid (show dropE p F=10 by rw[dropE,if_pos (by rw[h0];decide)])
   have hfe:findE p F.L=10:=by rw[hfe0,if_neg (by rw[h0];decide)]
   have hfi:rfindI p F.L=0:=rfind_no (by rw[hfe];decide)
   rw[hfi,hfe] at FI
   have FI:=hid FI
   unfold ptr at*
   clear h0 hfe hfi hfe0
   go_enter Tryz.func32,Tryz.ntmps32
   go_wp2_with fail
   refine FI.out.mono ?_
   rintro ex w2 ⟨rfl,hb2⟩
   have HB2:=hid hb2
   clear hb2 FI
   go_wp2
   go_ret
   exact NOX.out _ _ HB2.out HC.out (by decide)
 have HS0:=hid h0
 have HWC:=hid (drop_codes p F HS0.out HCLK.out)
 rw[if_pos h0] at hfe0
 clear h0
 rcases Option.eq_none_or_eq_some (getT (splitL p) F.L) with hg|⟨e0,hg⟩
 · have HC:=hid (show dropE p F=6 by rw[HWC.out,hg])
   have hfe:findE p F.L=6:=by rw[hfe0,hg];rfl
   have hfi:rfindI p F.L=0:=rfind_no (by rw[hfe];decide)
   rw[hfi,hfe] at FI
   have FI:=hid FI
   unfold ptr at*
   clear hg hfe hfi HWC hfe0
   go_enter Tryz.func32,Tryz.ntmps32
   go_wp2_with fail
   refine FI.out.mono ?_
   rintro ex w2 ⟨rfl,hb2⟩
   have HB2:=hid hb2
   clear hb2 FI
   go_wp2
   go_ret
   exact NOX.out _ _ HB2.out HC.out (by decide)
 have hfe:findE p F.L=0:=by rw[hfe0,hg];rfl
 obtain⟨i,e,hfi,hi,hen,hg',_⟩:=rfind_yes HG.out.srt hfe
 obtain rfl:e=e0:=by rw[hg] at hg';exact(Option.some.inj hg').symm
 rw[hfi,hfe] at FI
 have FI:=hid FI
 obtain⟨n,hn,hne⟩:=H.out.get hi
 have hil:i < R.length:=(List.getElem?_eq_some_iff.1 hn).1
 have hnm:n.nm=splitL p:=by rw[←hen,←hne];rfl
 have HN:=hid hn;have HNM:=hid hnm
 have HWD:=hid (show dropE p F=if splitL p=[] then 1 else 0 by rw[HWC.out,hg])
 have hilt:(i:Int) < (R.length:Int):=by omega
 obtain⟨gv,cap,hv,hgv⟩:=H.out.form (by omega)
 injection hv with e1 e2 e3
 subst e1 e3
 obtain⟨na,nc,hnv⟩:=rowS_slice (H.out.node n (List.mem_of_getElem? hn)).1.row
 have HNV:=hid hnv
 have KS:Hid (∀ w2,Below w.heap.size w w2→w2.cell? ⟨r,0,none⟩=some (.slice (some ⟨gv,0,none⟩) R.length vc)∧w2.cell? ⟨r,1,none⟩=some (.int .i64 (F.clock:Int))∧w2.frozen? ⟨r,1,none⟩=false∧w2.cell? ⟨gv,i*11,none⟩=some (.slice na n.nm.length nc)):=hid (fun w2 hb=>by
  have HX:=H.out.below hb
  exact⟨cell_of_heap HX.book,cell_of_heap HX.book,frozen_of_heap HX.book,by rw[←HNV.out];exact HX.ent HN.out 0 _ rfl⟩)
 have hgr:gv≠r:=H.out.off gv (by simp[ob,Value.ownBlock])
 have hgvw:gv < w.heap.size:=hgv
 have hrb:r < w.heap.size:=lt_of_heap H.out.book
 unfold ptr at*
 clear hg hg' hfe hfi HWC hi hn hne hen e2 hfe0 hnm hnv
 go_enter Tryz.func32,Tryz.ntmps32
 go_wp2_with fail
 refine FI.out.mono ?_
 rintro ex w2 ⟨rfl,hb2⟩
 have HB2:=hid hb2
 clear hb2 FI
 obtain⟨c0,c1,f1,cn⟩:=KS.out w2 HB2.out
 by_cases hroot:splitL p=[]
 · have HC:=hid (show dropE p F=1 by rw[HWD.out,if_pos hroot])
   have hl0:n.nm.length=0:=by rw[HNM.out,hroot];rfl
   rw[hl0] at cn
   clear hroot
   go_wp2
   go_ret
   exact NOX.out _ _ HB2.out HC.out (by decide)
 have HC:=hid (show dropE p F=0 by rw[HWD.out,if_neg hroot])
 have HPN:Hid (PathAt B w n.nv n.nm):=hid (H.out.node n (List.mem_of_getElem? HN.out)).1
 have hnne:n.nm≠[]:=by rw[HNM.out];exact hroot
 obtain⟨gn,nc2,hnv2,hnc1,hnc2,hnst⟩:=HPN.out.front hnne
 have hnv3:=HNV.out
 rw[hnv2] at hnv3
 injection hnv3 with e1 e2 e3
 subst e1 e3
 have hn1:1≤n.nm.length:=by have:=List.length_pos_iff.2 hnne;omega
 have hl0:((n.nm.length:Int)==0)=false:=by rw[beq_eq_false_iff_ne];omega
 have hnm2:n.nm.length≤maxLen:=Nat.le_trans hnc1 hnc2
 unfold maxLen at hnc2 hnm2
 have hsub:((n.nm.length - 1:Nat):Int)=(n.nm.length:Int) - 1:=by omega
 have hnrob:gn∈robL R:=robL_mem (List.mem_of_getElem? HN.out) (List.mem_append_left _ (by rw[hnv2];simp[ob,Value.ownBlock]))
 have hgn:=H.out.apart gn hnrob
 have hgnr:gn≠r:=hgn.2.1
 have hgng:gn≠gv:=fun h=>hgn.2.2 (by rw[h];simp[ob,Value.ownBlock])
 have hgnw:gn < w.heap.size:=H.out.lt gn (by rw[rblk,List.mem_cons,List.mem_append];exact .inr (.inr hnrob))
 obtain⟨u,hu⟩:∃ u,getT n.nm.dropLast F.L=some u:=by
  obtain⟨q,s,hqs⟩:∃ q s,n.nm=q++[s]:=⟨_,_,(List.dropLast_concat_getLast hnne).symm⟩
  obtain⟨u,hu,hun,_⟩:=HG.out.par n.te (by rw[H.out.is];exact List.mem_map.2 ⟨n,List.mem_of_getElem? HN.out,rfl⟩) q s hqs
  refine⟨u,?_⟩
  have:=getT_of HG.out.srt hu
  rw[hun] at this
  rw[hqs,List.dropLast_concat];exact this
 obtain⟨j,hj,hI⟩:=atI_get HG.out.srt hu
 have hun:=(getT_nm hu).2
 obtain⟨m,hm,hme⟩:=H.out.get hj
 have hjl:j < R.length:=(List.getElem?_eq_some_iff.1 hm).1
 have hjt:(j:Int) < (R.length:Int):=by omega
 -- the clock
 obtain⟨cc,hcc⟩:∃ cc:Int,cc=((F.clock+1:Nat):Int):=⟨_,rfl⟩
 have hcl:(F.clock:Int)+1=cc:=by rw[hcc];omega
 obtain⟨W3,hW3⟩:∃ W3,W3=w2.setCell ⟨r,1,none⟩ (.int .i64 ((F.clock:Int)+1)):=⟨_,rfl⟩
 have hX3:RTree B W3 r (.slice (some ⟨gv,0,none⟩) R.length vc) R {F with clock:=F.clock+1}:=by
  have:=(H.out.below HB2.out).clocked (F.clock+1)
  rw[←hcc,←hcl,←hW3] at this;exact this
 have HX3:=hid hX3;have HW3:=hid hW3;have HCC:=hid hcc;have HJ:=hid hj;have HM:=hid hm;have HME:=hid hme;have HUN:=hid hun
 have hs3:W3.heap.size=w2.heap.size:=by rw[hW3,World.size_setCell]
 have HS3:=hid hs3
 have HST3:Hid (∀ w',Below W3.heap.size W3 w'→St.StrsAt w' (.slice (some ⟨gn,0,none⟩) (n.nm.length - 1) nc2) n.nm.dropLast):=hid (fun w' hb=>by
  obtain⟨a,c,ha,q1,q2,q3⟩:=hnst
  injection ha with ha1 ha2 ha3
  refine⟨a,c,by rw[ha1,ha2,ha3],q1,q2,fun hne=>?_⟩
  obtain⟨b,o,hbo,hlt,hcl⟩:=q3 hne
  have hbg:b=gn:=by rw[←ha1] at hbo;injection hbo with hbo;injection hbo with h1;exact h1.symm
  have hk:w'.heap[b]? =w.heap[b]? :=by
   rw[hbg,hb.block gn (by rw[hs3];exact Nat.lt_of_lt_of_le hgnw HB2.out.size),hW3]
   exact(Below.heap_setCell _ _ _ _ hgnr).trans (HB2.out.block gn hgnw)
  refine⟨b,o,hbo,by rw[hbg];have h2:=HB2.out.size;have h4:=hb.size;omega,fun i x hx=>?_⟩
  exact(World.cell?_of_block (a:=⟨b,o+i,none⟩) hk).trans (hcl i x hx))
 have AT:=rat_any B W3.drew r _ R {F with clock:=F.clock+1} _ n.nm.dropLast (HST3.out _ (Below.refl _ _).drew) HG.out.srt hlen (hX3.drew)
 dsimp only at AT
 rw[hI] at AT
 have AT:=hid AT
 unfold ptr at AT
 have KW:Hid (∀ w',Below W3.heap.size W3 w'→w'.cell? ⟨r,0,none⟩=some (.slice (some ⟨gv,0,none⟩) R.length vc)∧w'.cell? ⟨r,1,none⟩=some (.int .i64 cc)):=hid (fun w' hb=>by
  have hx:=(HX3.out.below hb).book
  exact⟨cell_of_heap hx,(cell_of_heap hx).trans (by rw[HCC.out];rfl)⟩)
 have hwr:IntKind.i64.wrap ((n.nm.length:Int) - 1)=((n.nm.length - 1:Nat):Int):=by rw[IntKind.wrap_i64];omega
 clear hX3 hW3 hcc hcl hj hm hme hu hun hI hs3 hroot hnst hnv2 hgn hnrob e2
 go_upto_region 10 with(fail)
 rw[←HW3.out]
 refine wp_region_held_drew (S:=(fun w':World=>w'.cell? ⟨r,0,none⟩=some (.slice (some ⟨gv,0,none⟩) R.length vc)∧w'.cell? ⟨r,1,none⟩=some (.int .i64 cc))) (by kernel_rfl) (KW.out _ (Below.refl _ _).drew) (fun zh=>?_)
 iterate 8
  first|refine' tj 0 rfl rfl (fun _ _ _ h=>h) ?_ zh ?_|refine' tj 1 rfl rfl (fun _ _ _ h=>h) ?_ zh ?_|refine' tj 2 rfl rfl (fun _ _ _ h=>h) ?_ zh ?_|refine' tj 3 rfl rfl (fun _ _ _ h=>h) ?_ zh ?_|refine' tj 4 rfl rfl (fun _ _ _ h=>h) ?_ zh ?_|refine' tj 5 rfl rfl (fun _ _ _ h=>h) ?_ zh ?_|refine' tj 6 rfl rfl (fun _ _ _ h=>h) ?_ zh ?_|refine' tj 7 rfl rfl (fun _ _ _ h=>h) ?_ zh ?_
  rotate_left
  · intro wS hS;obtain⟨k0,k1⟩:=hS;go_simp;try rfl
  try simp only[Act.put,zA,zB,zC,zD,zE,zF]
 refine tk 8 rfl (v:=(.int .i64 ((n.nm.length - 1:Nat):Int))) (fun _ _ _ h=>h) ?dr8 zh ?_
 case dr8=>
  intro wS hS
  obtain⟨k0,k1⟩:=hS
  go_simp
  try rw[hwr]
  try rfl
 try simp only[Act.put,zA,zB,zC,zD,zE,zF]
 refine tk 9 rfl (v:=(.slice (some ⟨gn,0,none⟩) (n.nm.length - 1) nc2)) (fun _ _ _ h=>h) ?dr9 zh ?_
 case dr9=>intro wS hS;obtain⟨k0,k1⟩:=hS;exact exec_front (.tmp 47) (.tmp 50) gn n.nm.length nc2 _ rfl rfl rfl (by omega)
 try simp only[Act.put,zA,zB,zC,zD,zE,zF]
 iterate 4
  first|refine' tj 11 rfl rfl (fun _ _ _ h=>h) ?_ zh ?_|refine' tj 12 rfl rfl (fun _ _ _ h=>h) ?_ zh ?_|refine' tj 13 rfl rfl (fun _ _ _ h=>h) ?_ zh ?_|refine' tj 14 rfl rfl (fun _ _ _ h=>h) ?_ zh ?_
  rotate_left
  · intro wS hS;obtain⟨k0,k1⟩:=hS;go_simp;try rfl
  try simp only[Act.put,zA,zB,zC,zD,zE,zF]
 refine wpAnyH_ready (rs:=[10]) (by kernel_rfl) (by simp) ?_
 refine AllReadyH.cons rfl (fun K hK=>?_) AllReadyH.nil
 go_simp
 refine AT.out.mono ?_
 rintro ez wq ⟨rfl,hbq⟩
 have HBQ:Hid (Below W3.heap.size W3 wq):=hid ((Below.refl W3.heap.size W3).drew.trans hbq)
 clear hbq
 go_wp2_with fail
 refine hK.out _ _ (KW.out _ HBQ.out) ?_
 clear hK K zh
 intro zh
 try simp only[Act.put,zA,zB,zC,zD,zE,zF]
 iterate 2
  first|refine' tj 15 rfl rfl (fun _ _ _ h=>h) ?_ zh ?_|refine' tj 16 rfl rfl (fun _ _ _ h=>h) ?_ zh ?_
  rotate_left
  · intro wS hS;obtain⟨k0,k1⟩:=hS;go_simp;try rfl
  try simp only[Act.put,zA,zB,zC,zD,zE,zF]
 refine wpAnyH_ready (rs:=[17]) (by kernel_rfl) (by simp) ?_
 refine AllReadyH.cons rfl (fun K hK=>?_) AllReadyH.nil
 have hTQ:=HX3.out.below HBQ.out
 obtain⟨hts1,hts2,⟨hx3,hts3⟩,hts4⟩:=hTQ.ticked HM.out cc
 have HTS:=hid hts1;have HRL:=hid hts4
 clear hTQ hts1 hts4
 go_simp
 refine hK.out _ _ (by obtain⟨q0,q1⟩:=KW.out wq HBQ.out;exact⟨(World.cell?_of_block (a:=⟨r,0,none⟩) (Below.heap_setCell _ _ _ _ (Ne.symm hgr))).trans q0,(World.cell?_of_block (a:=⟨r,1,none⟩) (Below.heap_setCell _ _ _ _ (Ne.symm hgr))).trans q1⟩) ?_
 clear hK K zh
 intro zh
 try simp only[Act.put,zA,zB,zC,zD,zE,zF]
 refine wpAnyH_done (by kernel_rfl) ?_ _
 clear zh
 try simp only[Act.put,zA,zB,zC,zD,zE,zF]
 obtain⟨W4,hW4⟩:∃ W4,W4=wq.setCell ⟨gv,j*11+10,none⟩ (.int .i64 cc):=⟨_,rfl⟩
 rw[←hW4]
 have HTS4:=HTS
 rw[←hW4] at HTS4
 have HT4:Hid (Turn (r::ob (.slice (some ⟨gv,0,none⟩) R.length vc)) w W4):=hid (by
  have e1:Turn (r::ob (.slice (some ⟨gv,0,none⟩) R.length vc)) w w2:=Turn.of_below HB2.out
  have e2:=e1.setCell (p:=⟨r,1,none⟩) (.inl (by simp)) (.int .i64 ((F.clock:Int)+1))
  rw[←HW3.out] at e2
  have e3:=e2.trans (Turn.of_below (X:=[]) HBQ.out) (fun y hy=>nomatch hy)
  rw[hW4]
  exact e3.setCell (p:=⟨gv,j*11+10,none⟩) (.inl (by simp[ob,Value.ownBlock])) (.int .i64 cc))
 obtain⟨R1,hR1⟩:∃ R1,R1=R.set j {m with tick:=cc}:=⟨_,rfl⟩
 rw[←hR1] at HTS4 HRL
 have hr1:R1.length=R.length:=by rw[hR1,List.length_set]
 obtain⟨F1,hF1⟩:∃ F1:Tr,F1={F with clock:=F.clock+1,L:=F.L.set j {m.te with tick:=cc}}:=⟨_,rfl⟩
 have HX4:Hid (RTree B W4 r (.slice (some ⟨gv,0,none⟩) R.length vc) R1 F1):=hid (by rw[hF1];exact HTS4.out)
 have HF1:Hid (dropN p F={F1 with L:=dropT (splitL p) F1.L}):=hid (by
  rw[hF1]
  show _=Tr.mk (dropT (splitL p) (F.L.set j {m.te with tick:=cc})) _ _ _
  rw[HME.out,set_tick HG.out.srt HJ.out,drop_tick,HUN.out,HNM.out,HCC.out];rfl)
 have HB4S:Hid (w.heap.size≤W4.heap.size):=hid HT4.out.size
 have HSN:Hid (∀ w',Below W4.heap.size W4 w'→St.StrsAt w' (.slice (some ⟨gn,0,none⟩) n.nm.length nc2) n.nm):=hid (fun w' hb=>by
  have h1:=HPN.out.kept (w':=w') (fun b hb2=>by
   rw[HNV.out] at hb2
   have hbg:b=gn:=by simpa [ob,Value.ownBlock,eq_comm] using hb2
   rw[hbg,hb.block gn (Nat.lt_of_lt_of_le hgnw HB4S.out),HT4.out.block gn hgnw (by simp[ob,Value.ownBlock,hgnr,hgng])])
  have h2:=h1.strs
  rw[HNV.out] at h2;exact h2)
 have HNL:Hid (∀ k,(offR n.nm (R1.take k)).length≤R.length):=hid (fun k=>by
  have:=offR_len n.nm (R1.take k);rw[List.length_take,hr1] at this;omega)
 have hlen1:R1.length≤1000000:=by rw[hr1];exact HLEN.out
 have HR1:=hid hr1
 clear hW4 HTS4 HTS hR1 hF1 c0 c1 f1 cn hr1
 go_wp2
 go_loopw [8,9] (fun v8 v9 wr=>∃ i:Nat,i≤R1.length∧v9= .int .i64 (i:Int)∧Hid (wr.ownsRow W4.heap.size RnT 11 v8 (offR n.nm (R1.take i)).length (rcells (offR n.nm (R1.take i))))∧Hid (Below W4.heap.size W4 wr)) (fun _ v9 _=>R1.length - (RowKit.intOf v9).toNat)
 case atStart=>exact ⟨0,Nat.zero_le _,rfl,hid (rowS_nil _ _ _ _),hid (Below.refl _ _)⟩
 case round=>
  obtain⟨i,hi,rfl,HO,HB⟩:=hrel
  have HX:=hid (HX4.out.below HB.out)
  have HBS:Hid (W4.heap.size≤wr.heap.size):=hid HB.out.size
  have c0:wr.cell? ⟨r,0,none⟩=some (.slice (some ⟨gv,0,none⟩) R.length vc):=cell_of_heap HX.out.book
  have hnl:=HNL.out i
  have hr1:=HR1.out
  by_cases hil:(i:Int) < (R.length:Int)
  · have hi1:i < R1.length:=by omega
    obtain⟨y,hy⟩:∃ y,R1[i]? =some y:=⟨_,List.getElem?_eq_getElem hi1⟩
    have HYST:=hid (HX.out.node y (List.mem_of_getElem? hy)).1.strs
    obtain⟨ya,yc,hyv⟩:=rowS_slice (HX.out.node y (List.mem_of_getElem? hy)).1.row
    have HYV:=hid hyv
    have yones:=hid (HX.out.ones (List.mem_of_getElem? hy))
    have HX':=HX.out
    rw[←hr1] at HX'
    have hent:=HX'.ent hy
    have HENT:=hid hent
    have cy:wr.cell? ⟨gv,i*11,none⟩=some (.slice ya y.nm.length yc):=by rw[←HYV.out];exact hent 0 _ rfl
    have HYI:=hid hy
    have CB:=hid (begins_any wr _ y.nv n.nm y.nm (HSN.out wr HB.out) HYST.out)
    rw[HYV.out] at CB
    have HMO:=hid (offR_more (l:=n.nm) hy)
    clear hyv hy HX' hent
    cases hpre:n.nm.isPrefixOf y.nm with
    |true=>
     have HM2:Hid (offR n.nm (R1.take (i+1))=offR n.nm (R1.take i)):=hid (by rw[HMO.out,if_pos hpre,List.append_nil])
     rw[hpre] at CB
     clear hpre
     go_wp2_with fail
     refine CB.out.mono ?_
     rintro ez w5 ⟨rfl,hb5⟩
     have HB5:=hid hb5
     clear hb5 CB
     go_wp2
     go_roundw
     case rel=>exact ⟨i+1,by omega,by go_num,by rw[HM2.out];exact hid (rowS_kept HO.out (fun x _ hl=>HB5.out.block x hl)),hid (HB.out.trans (HB5.out.mono HB.out.size))⟩
     case measure=>simp [RowKit.intOf];omega
    |false=>
     have HM2:Hid (offR n.nm (R1.take (i+1))=offR n.nm (R1.take i)++[y]):=hid (by rw[HMO.out,hpre];rfl)
     rw[hpre] at CB
     clear hpre
     generalize offR n.nm (R1.take i)=L0 at*
     go_wp2_with fail
     refine CB.out.mono ?_
     rintro ez w5 ⟨rfl,hb5⟩
     have HB5:=hid hb5
     have HX5:=HX.out.below hb5
     have c05:w5.cell? ⟨r,0,none⟩=some (.slice (some ⟨gv,0,none⟩) R.length vc):=cell_of_heap HX5.book
     have HX5':=HX5
     rw[←hr1] at HX5'
     have HENTd:=hid (HX5'.ent HYI.out)
     have HBS:Hid (W4.heap.size≤w5.heap.size):=hid (Nat.le_trans HB.out.size hb5.size)
     have HOk:=hid (rowS_kept HO.out (fun x _ hl=>hb5.block x hl))
     clear hb5 CB HX5 HX5'
     go_wp2_with (first
      |(refine wpList_load_mid rfl _ _ rfl gv (i*11) rfl y.cells _ HENTd.out Tryz.underlying86 rfl (infoRn1 y) ?_)
      |(refine wpList_oneH 11 (by decide) (by decide) rfl 87 RnT (.tmp 86) y.cells i0 _ rfl rfl Tryz.underlying87 hi0 hz0 hz1 rfl ?_
        intro yd wd hhd hgd hyd hsd
        have HHd:=hid hhd;have HGd:=hid hgd;have HYd:=hid hyd;have HSd:=hid hsd
        clear hhd hgd hyd hsd)
      |(refine wpList_appendN 11 (by decide) rfl _ _ 87 rfl W4.heap.size RnT i0 _ 120 Tryz.underlying87 hi0 hz0 hz1 hz2 hz3 u8 L0.length (rcells L0) rfl (rowS_kept HOk.out (fun x _ hl=>HGd.out.block x hl (fun h=>nomatch h))) _ 1 y.cells rfl HHd.out rfl yones.out (by have:=HLEN.out;unfold maxLen;omega) (by have:=HLEN.out;omega) (by have:=HBS.out;have:=HSd.out;omega) ?_
        intro vd xd hod hgd hvd
        have HOd:=hid hod;have HKd:=hid hgd;have HVd:=hid hvd
        clear hod hgd hvd))
     go_roundw
     case rel=>
      refine⟨i+1,by omega,by go_num,hid ?_,hid ?_⟩
      · rw[HM2.out,←rcells_one,List.length_append];exact HOd.out
      · exact((HB.out.trans (HB5.out.mono HB.out.size)).grown HGd.out (Nat.le_trans HB.out.size HB5.out.size) (fun k hk=>nomatch hk)).grown HKd.out (Nat.le_trans (Nat.le_trans HB.out.size HB5.out.size) HGd.out.size) (fun x hx=>rowS_ge HO.out x (by simp[ob,hx]))
     case measure=>simp [RowKit.intOf];omega
  · obtain rfl:i=R1.length:=by omega
    have HO2:=HO
    rw[List.take_length] at HO2
    have f0:wr.frozen? ⟨r,0,none⟩=false:=frozen_of_heap HX.out.book
    obtain⟨oa,oc,rfl⟩:=rowS_slice HO2.out
    have FINAL:Hid (RPost B w r (.slice (some ⟨gv,0,none⟩) R.length vc) R (dropN p F) 0 (.returned (.int .i64 0)) (wr.setCell ⟨r,0,none⟩ (.slice oa (offR n.nm R1).length oc))):=hid (by
     rw[HF1.out,←HNM.out]
     exact drop_end H.out HBL.out (HT4.out.trans (Turn.of_below (X:=[]) HB.out) (fun y hy=>nomatch hy)) HB4S.out HX.out HRL.out HO2.out)
    clear HO
    go_wp2
    go_ret
    exact YES.out _ HC.out FINAL.out
end Go.Proofs.YtnmejonfdfdegaaGreatDoor.Sr
