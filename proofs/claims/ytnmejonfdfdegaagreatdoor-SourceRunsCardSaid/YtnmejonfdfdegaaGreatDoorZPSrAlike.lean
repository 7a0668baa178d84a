import Derived.Test.YtnmejonfdfdegaaGreatDoorZPSrIn18
import Derived.Test.YtnmejonfdfdegaaGreatDoorZPRtLook
import Derived.BigQuiet
import Derived.Deep.QuietTactic
import Derived.Test.YtnmejonfdfdegaaGreatDoorZPSrNew
import Derived.Test.YtnmejonfdfdegaaGreatDoorZPSrOwn
import Derived.Maps.RangeWalk
set_option linter.unusedSimpArgs false
set_option linter.unusedVariables false
set_option maxHeartbeats 8000000
set_option maxRecDepth 100000
namespace Go.Proofs.YtnmejonfdfdegaaGreatDoor.Sr
open Go.RowKit Go.Maps Go.WideMaps Rf Go.Proofs.YtnmejonfdfdegaaGreatDoor.Nm St
open Lib (hid)
theorem alike18_any (w:World) (A:XA) (v u:Value) (hv:XsAt w v A.xs) (hu:XsAt w u A.xs):
 Calls Tryz.prog 59 #[.agg (A.cells v).toArray,.agg (A.cells u).toArray] w fun e w'=>e= .returned (.bool true)∧Below w.heap.size w w':=by
 obtain⟨W,hW⟩:∃ W,W=(w.alloc (.cells (A.cells v).toArray 79)).alloc (.cells (A.cells u).toArray 67):=⟨_,rfl⟩
 have hb0:Below w.heap.size w W:=by rw[hW];exact((Below.refl _ _).alloc (Nat.le_refl _) _).alloc (by rw[one_size];omega) _
 have hq0:W.heap[w.heap.size]? =some (.cells (A.cells v).toArray 79):=by rw[hW];exact at_alloc (MapKept.heap_alloc w _).1 _
 have hr0:W.heap[w.heap.size+1]? =some (.cells (A.cells u).toArray 67):=by
  have:=(MapKept.heap_alloc (w.alloc (.cells (A.cells v).toArray 79)) (.cells (A.cells u).toArray 67)).1
  rw[one_size] at this
  rw[hW];exact this
 have HW:=hid hW
 have KA:Hid (∀ w',Below W.heap.size W w'→w'.cell? ⟨w.heap.size,6,none⟩=some v∧w'.cell? ⟨w.heap.size+1,6,none⟩=some u):=hid (fun w' hb=>⟨cell_of_heap ((hb.block _ (lt_of_heap hq0)).trans hq0),cell_of_heap ((hb.block _ (lt_of_heap hr0)).trans hr0)⟩)
 have ca0:W.cell? ⟨w.heap.size,0,none⟩=some (.int .u8 (A.node:Int)):=cell_of_heap hq0
 have ca1:W.cell? ⟨w.heap.size,1,none⟩=some (.int .u32 (A.mode:Int)):=cell_of_heap hq0
 have ca2:W.cell? ⟨w.heap.size,2,none⟩=some (.int .u32 (A.uid:Int)):=cell_of_heap hq0
 have ca3:W.cell? ⟨w.heap.size,3,none⟩=some (.int .u32 (A.gid:Int)):=cell_of_heap hq0
 have ca4:W.cell? ⟨w.heap.size,4,none⟩=some (.int .i64 A.mtime):=cell_of_heap hq0
 have ca5:W.cell? ⟨w.heap.size,5,none⟩=some (.string ⟨A.target.toArray⟩):=cell_of_heap hq0
 have ca6:W.cell? ⟨w.heap.size,6,none⟩=some v:=cell_of_heap hq0
 have cb0:W.cell? ⟨w.heap.size+1,0,none⟩=some (.int .u8 (A.node:Int)):=cell_of_heap hr0
 have cb1:W.cell? ⟨w.heap.size+1,1,none⟩=some (.int .u32 (A.mode:Int)):=cell_of_heap hr0
 have cb2:W.cell? ⟨w.heap.size+1,2,none⟩=some (.int .u32 (A.uid:Int)):=cell_of_heap hr0
 have cb3:W.cell? ⟨w.heap.size+1,3,none⟩=some (.int .u32 (A.gid:Int)):=cell_of_heap hr0
 have cb4:W.cell? ⟨w.heap.size+1,4,none⟩=some (.int .i64 A.mtime):=cell_of_heap hr0
 have cb5:W.cell? ⟨w.heap.size+1,5,none⟩=some (.string ⟨A.target.toArray⟩):=cell_of_heap hr0
 have cb6:W.cell? ⟨w.heap.size+1,6,none⟩=some u:=cell_of_heap hr0
 have hv2:=hv.kept hb0.size (fun b hb=>hb0.block b (hv.lt b hb))
 have hu2:=hu.kept hb0.size (fun b hb=>hb0.block b (hu.lt b hb))
 obtain⟨va,vc,rfl,hxm,_,hxc⟩:=hv2
 obtain⟨ua,uc,rfl,_,_,hyc⟩:=hu2
 have HXC:=hid hxc;have HYC:=hid hyc;have HB0:=hid hb0
 obtain⟨xs,hxs⟩:∃ xs,xs=A.xs:=⟨_,rfl⟩
 rw[←hxs] at hxm HXC HYC KA ca6 cb6
 unfold maxLen at hxm
 clear hb0 hq0 hr0 hxc hyc hv hu hW hxs
 go_enter Tryz.func59,Tryz.ntmps59
 go_upto_region 1 with(fail)
 change Code.wp _ _ _ _ ((w.alloc (.cells (A.cells (.slice va A.xs.length vc)).toArray 79)).alloc (.cells (A.cells (.slice ua A.xs.length uc)).toArray 67))
 rw[←HW.out]
 go_wp2_with fail
 clear ca0 ca1 ca2 ca3 ca4 ca5 ca6 cb0 cb1 cb2 cb3 cb4 cb5 cb6
 go_loopw [5] (fun v5 wr=>∃ i:Nat,i≤xs.length∧v5= .int .i64 (i:Int)∧Hid (Below W.heap.size W wr)) (fun v5 _=>xs.length - (RowKit.intOf v5).toNat)
 case atStart=>exact ⟨0,by omega,rfl,hid (Below.refl _ _)⟩
 case round=>
  obtain⟨i,hi,rfl,HB⟩:=hrel
  obtain⟨c6,d6⟩:=KA.out wr HB.out
  by_cases hil:(i:Int) < (xs.length:Int)
  · have hi2:i < xs.length:=by omega
    obtain⟨x,hx⟩:∃ x,xs[i]? =some x:=⟨_,List.getElem?_eq_getElem hi2⟩
    obtain⟨b,o,rfl,hb,hcl⟩:=HXC.out (fun h=>by rw[h] at hi2;cases hi2)
    obtain⟨b2,o2,rfl,hb2,hcl2⟩:=HYC.out (fun h=>by rw[h] at hi2;cases hi2)
    have e1:wr.cell? ⟨b,o+i*2,none⟩=some (.string ⟨x.1.toArray⟩):=(World.cell?_of_block (a:=⟨b,o+i*2,none⟩) (HB.out.block b hb)).trans (hcl i x hx).1
    have e2:wr.cell? ⟨b,o+i*2+1,none⟩=some (.string ⟨x.2.toArray⟩):=(World.cell?_of_block (a:=⟨b,o+i*2+1,none⟩) (HB.out.block b hb)).trans (hcl i x hx).2
    have f1:wr.cell? ⟨b2,o2+i*2,none⟩=some (.string ⟨x.1.toArray⟩):=(World.cell?_of_block (a:=⟨b2,o2+i*2,none⟩) (HB.out.block b2 hb2)).trans (hcl2 i x hx).1
    have f2:wr.cell? ⟨b2,o2+i*2+1,none⟩=some (.string ⟨x.2.toArray⟩):=(World.cell?_of_block (a:=⟨b2,o2+i*2+1,none⟩) (HB.out.block b2 hb2)).trans (hcl2 i x hx).2
    have h0:(0:Int)≤(i:Int):=by omega
    clear hcl hcl2 hx
    go_wp2_with fail
    go_quiet (fail)
    go_wp2
    go_roundw
    case rel=>exact ⟨i+1,by omega,by go_num,hid (HB.out.trans ⟨rfl,rfl,rfl,Nat.le_refl _,fun _ _=>rfl⟩)⟩
    case measure=>simp [RowKit.intOf];omega
  · obtain rfl:i=xs.length:=by omega
    go_wp2
    go_ret
    exact⟨rfl,HB0.out.trans (HB.out.mono HB0.out.size)⟩
theorem kept_any (w:World) (A:XA) (g c B:Nat) (u:Value) (hv:w.ownsRow B 123 2 (.slice (some ⟨g,0,none⟩) (A.xs.length+1) c) (A.xs.length+1) (xcells (A.xs++[mrk]))) (hl:∀ x∈A.xs,x.1.length≤maxLen∧x.2.length≤maxLen) (hu:XsAt w u A.xs):
 Calls Tryz.prog 54 #[.agg (A.cells (.slice (some ⟨g,0,none⟩) A.xs.length c)).toArray,.agg (A.cells u).toArray] w fun e w'=>e= .returned (.bool true)∧Below w.heap.size w w':=by
 have hx:=(mark_xs hv hl).1
 have hgl:=rowS_lt hv g (by simp[ob,Value.ownBlock])
 have hmk:w.cell? ⟨g,A.xs.length*2,none⟩=some (.string ⟨#[109,97,114,107]⟩):=by
  obtain⟨g',c',hv',_,_,_,hcl⟩:=rowS_form hv (by omega)
  injection hv' with e1 _ _
  injection e1 with e1
  injection e1 with e1
  subst e1
  refine hcl (A.xs.length*2) _ ?_
  rw[xcells_app,List.getElem?_append_right (by rw[xcells_length];omega),xcells_length]
  rw[Nat.sub_self];rfl
 have hcap:A.xs.length+1≤c∧c≤maxLen:=by
  obtain⟨_,⟨h0,_⟩|⟨_,_,_,hv2,_,_,h1,h2,_⟩⟩:=hv
  · cases h0
  · injection hv2 with _ _ e3;rw[e3];exact⟨h1,h2⟩
 obtain⟨W,hW⟩:∃ W,W=(w.alloc (.cells (A.cells (.slice (some ⟨g,0,none⟩) A.xs.length c)).toArray 79)).alloc (.cells (A.cells u).toArray 67):=⟨_,rfl⟩
 have hb0:Below w.heap.size w W:=by rw[hW];exact((Below.refl _ _).alloc (Nat.le_refl _) _).alloc (by rw[one_size];omega) _
 have hq0:W.heap[w.heap.size]? =some (.cells (A.cells (.slice (some ⟨g,0,none⟩) A.xs.length c)).toArray 79):=by rw[hW];exact at_alloc (MapKept.heap_alloc w _).1 _
 have hr0:W.heap[w.heap.size+1]? =some (.cells (A.cells u).toArray 67):=by
  have:=(MapKept.heap_alloc (w.alloc (.cells (A.cells (.slice (some ⟨g,0,none⟩) A.xs.length c)).toArray 79)) (.cells (A.cells u).toArray 67)).1
  rw[one_size] at this
  rw[hW];exact this
 have AL:=hid (alike18_any W A (.slice (some ⟨g,0,none⟩) A.xs.length c) u (hx.kept hb0.size (fun b hb=>hb0.block b (hx.lt b hb))) (hu.kept hb0.size (fun b hb=>hb0.block b (hu.lt b hb))))
 obtain⟨n,hn⟩:∃ n,n=A.xs.length:=⟨_,rfl⟩
 have cu:W.cell? ⟨w.heap.size+1,6,none⟩=some u:=cell_of_heap hr0
 have KA:Hid (∀ w',Below W.heap.size W w'→w'.cell? ⟨w.heap.size,6,none⟩=some (.slice (some ⟨g,0,none⟩) n c)∧w'.cell? ⟨g,n*2,none⟩=some (.string ⟨#[109,97,114,107]⟩)):=hid (fun w' hb=>by
  have h1:=(hb.block _ (lt_of_heap hq0)).trans hq0
  refine⟨by rw[hn];exact cell_of_heap h1,?_⟩
  rw[hn,←hmk]
  exact World.cell?_of_block ((hb.block g (Nat.lt_of_lt_of_le hgl hb0.size)).trans (hb0.block g hgl)))
 have HQ0:=hid hq0;have HR0:=hid hr0;have HB0:=hid hb0;have HW:=hid hW
 have hc1:((n:Int)+1)≤(c:Int):=by rw[hn];omega
 have hc2:n+1≤c:=by rw[hn];omega
 have hc3:(c:Int)≤9223372036854775807:=by have:=hcap.2;unfold maxLen at this;omega
 have hwn:IntKind.i64.wrap ((n:Int)+1)=(n:Int)+1:=IntWalk.i64_in _ (by omega)
 have hwt:((n:Int)+1).toNat=n+1:=by omega
 have HN:=hid hn
 obtain⟨ua,uc,rfl,_⟩:=hu
 rw[←hn] at cu
 clear hx hmk hcap hb0 hq0 hr0 hW hv hl hgl hn
 go_enter Tryz.func54,Tryz.ntmps54
 go_upto_region 1 with(fail)
 change Code.wp _ _ _ _ ((w.alloc (.cells (A.cells (.slice (some ⟨g,0,none⟩) A.xs.length c)).toArray 79)).alloc (.cells (A.cells (.slice ua A.xs.length uc)).toArray 67))
 rw[←HW.out]
 go_wp2_with (first
  |(refine Sh.wpList_load_at (T:=79) (cs:=(A.cells (.slice (some ⟨g,0,none⟩) A.xs.length c)).toArray) HQ0.out rfl 79 (.tmp 2) rfl rfl _ Tryz.underlying79 rfl (infoAt _ _) ?_)
  |(refine Sh.wpList_load_at (T:=67) (cs:=(A.cells (.slice ua A.xs.length uc)).toArray) HR0.out rfl 67 (.tmp 3) rfl rfl _ Tryz.underlying67 rfl (infoAtR _ _) ?_)
  |fail)
 refine AL.out.mono ?_
 rintro ex w2 ⟨rfl,hb2⟩
 obtain⟨c6,m6⟩:=KA.out w2 hb2
 have HB2:=hid hb2
 clear hb2 AL cu
 go_wp2
 go_ret
 exact⟨rfl,HB0.out.trans (HB2.out.mono HB0.out.size)⟩
def readE (p:List UInt8) (L:List TE):Int:=
 if splitE p≠0 then 10 else match getT (splitL p) L with
  |none=>6
  |some n=>if n.at_.node≠1 then 11 else 0
def readD (p:List UInt8) (L:List TE):List UInt8:=
 if readE p L=0 then match getT (splitL p) L with|none=>[]|some n=>n.data else []
def ReadPost (B:Nat) (w:World) (r:Nat) (T:Tr) (p:List UInt8) (e:Ending) (w':World):Prop:=
 e= .returned (.tuple #[.string ⟨(readD p T.L).toArray⟩,.int .i64 (readE p T.L)])∧TreeAt B w' r (if readE p T.L=0 then {T with reads:=T.reads+1} else T)∧Turn [r] w w'
theorem read_any (B:Nat) (w:World) (r:Nat) (T:Tr) (p:List UInt8) (hp:p.length≤4611686018427387904) (hrd:T.reads < 4611686018427387904) (h:TreeAt B w r T):
 Calls Tryz.prog 52 #[ptr r,.string ⟨p.toArray⟩] w (ReadPost B w r T p):=by
 have FI:=hid (find_any B w r T p hp h)
 have H:=hid h
 clear h
 unfold ptr at*
 go_enter Tryz.func52,Tryz.ntmps52
 go_wp2_with fail
 refine FI.out.mono ?_
 rintro ex w1 ⟨v,rfl,hp1,hb1⟩
 have HB:=hid hb1
 obtain⟨va,vc,rfl⟩:=rowS_slice hp1.row
 clear FI hp1 hb1
 rw[findE,findN]
 rcases splitE_cases p with h0|⟨h0,_⟩
 case inr=>
  have hc:readE p T.L=10:=by rw[readE,if_pos (by rw[h0];decide)]
  have hd:readD p T.L=[]:=by rw[readD,if_neg (by rw[hc];decide)]
  rw[if_neg (by rw[h0];decide),if_neg (by rw[h0];decide)]
  have HC:=hid hc;have HD:=hid hd
  unfold ptrO
  clear h0 hc hd
  go_wp2
  go_ret2
  refine⟨by rw[HC.out,HD.out];rfl,?_,Turn.of_below HB.out⟩
  rw[if_neg (by rw[HC.out];decide)];exact H.out.below HB.out
 rw[if_pos h0,if_pos h0]
 have HE1:Hid (readE p T.L=match getT (splitL p) T.L with
  |none=>6
  |some n=>if n.at_.node≠1 then 11 else 0):=hid (by rw[readE,if_neg (by rw[h0];decide)])
 clear h0
 cases hg:getT (splitL p) T.L with
 |none=>
  have hc:readE p T.L=6:=by rw[HE1.out,hg]
  have hd:readD p T.L=[]:=by rw[readD,if_neg (by rw[hc];decide)]
  have HC:=hid hc;have HD:=hid hd
  unfold ptrO
  clear hg hc hd HE1
  go_wp2
  go_ret2
  refine⟨by rw[HC.out,HD.out];rfl,?_,Turn.of_below HB.out⟩
  rw[if_neg (by rw[HC.out];decide)];exact H.out.below HB.out
 |some n=>
  obtain⟨hn,_⟩:=getT_nm hg
  have H1:=hid (H.out.below HB.out)
  have c2:w1.cell? ⟨n.p,2,none⟩=some (.int .u8 (n.at_.node:Int)):=cell_of_heap (H1.out.node n hn).cells
  unfold ptrO
  by_cases h1:n.at_.node=1
  case neg=>
   have hc:readE p T.L=11:=by rw[HE1.out,hg];exact if_pos h1
   have hd:readD p T.L=[]:=by rw[readD,if_neg (by rw[hc];decide)]
   have HC:=hid hc;have HD:=hid hd
   have hb:(((n.at_.node:Nat):Int)==1)=false:=by rw[beq_eq_false_iff_ne];omega
   have hb2:(((n.at_.node:Nat):Int) !=1)=true:=by rw[bne,hb];rfl
   clear HE1 hg hc hd hn h1
   go_wp2
   go_ret2
   refine⟨by rw[HC.out,HD.out];rfl,?_,Turn.of_below HB.out⟩
   rw[if_neg (by rw[HC.out];decide)];exact H1.out
  have hc:readE p T.L=0:=by rw[HE1.out,hg];exact if_neg (by simpa using h1)
  have hd:readD p T.L=n.data:=by rw[readD,if_pos hc,hg]
  have HC:=hid hc;have HD:=hid hd
  obtain⟨e0,he0,hr0⟩:=H1.out.root
  rw[h1] at c2
  have c3:w1.cell? ⟨r,3,none⟩=some (.int .i64 (T.reads:Int)):=cell_of_heap hr0
  have f3:w1.frozen? ⟨r,3,none⟩=false:=frozen_of_heap hr0
  have hwr:IntKind.i64.wrap ((T.reads:Int)+1)=(T.reads:Int)+1:=by rw[IntKind.wrap_i64];omega
  have HTR:Hid (TreeAt B (w1.setCell ⟨r,3,none⟩ (.int .i64 ((T.reads:Int)+1))) r {T with reads:=T.reads+1}):=hid (by
   refine H1.out.head he0 (c:=T.clock) (m:=T.most) (n:=T.reads+1) ?_ (fun b hb=>Below.heap_setCell _ _ _ _ ?_) (by rw[World.size_setCell];exact Nat.le_refl _)
   · rw[setCell_heap _ _ _ _ _ _ hr0];rfl
   · rintro rfl
     rcases List.mem_append.1 hb with hb|hb
     · exact H1.out.r_own hb
     · exact H1.out.xoff _ hb (by simp))
  have hcd:(w1.setCell ⟨r,3,none⟩ (.int .i64 ((T.reads:Int)+1))).cell? ⟨n.p,9,none⟩=some (.string ⟨n.data.toArray⟩):=cell_of_heap (HTR.out.node n hn).cells
  have hne:n.p≠r:=by rintro hnr;exact H1.out.r_own (hnr ▸ ownL_mem hn)
  have HTU:Hid (Turn [r] w (w1.setCell ⟨r,3,none⟩ (.int .i64 ((T.reads:Int)+1)))):=hid ((Turn.of_below HB.out:Turn [r] w w1).setCell (.inl (by simp)) _)
  clear HE1 hg hc hd hn h1 hr0 he0
  go_wp2
  go_ret2
  refine⟨by rw[HC.out,HD.out];rfl,?_,HTU.out⟩
  rw[if_pos HC.out];exact HTR.out
theorem now_any (B:Nat) (w:World) (r:Nat) (T:Tr) (h:TreeAt B w r T):
 Calls Tryz.prog 60 #[ptr r] w fun e w'=>e= .returned (.int .i64 (T.clock:Int))∧w'=w:=by
 obtain⟨e0,he0,hq0⟩:=h.root
 have c1:w.cell? ⟨r,1,none⟩=some (.int .i64 (T.clock:Int)):=cell_of_heap hq0
 unfold ptr at*
 clear he0 hq0 h
 go_enter Tryz.func60,Tryz.ntmps60
 go_wp2
 go_ret
 exact⟨rfl,rfl⟩
theorem reads_any (B:Nat) (w:World) (r:Nat) (T:Tr) (h:TreeAt B w r T):
 Calls Tryz.prog 15 #[ptr r] w fun e w'=>e= .returned (.int .i64 (T.reads:Int))∧w'=w:=by
 obtain⟨e0,he0,hq0⟩:=h.root
 have c1:w.cell? ⟨r,3,none⟩=some (.int .i64 (T.reads:Int)):=cell_of_heap hq0
 unfold ptr at*
 clear he0 hq0 h
 go_enter Tryz.func15,Tryz.ntmps15
 go_wp2
 go_ret
 exact⟨rfl,rfl⟩
def asFold (A:XA):XA:={A with node:=2,target:=[]}
theorem AddPost.call {B:Nat} {w w0 w':World} {r:Nat} {T:Tr} {p d:List UInt8} {A:XA} {e:Ending} (h:AddPost B w r T p d A e w') (hT:TreeAt B w0 r T) (hb:Below w0.heap.size w0 w) (hd:d.length≤1048576∨addE p d A T≠0) (hkk:(splitL p).length≤16):
 e= .returned (.int .i64 (addE p d A T))∧∃ T',CallT B w0 r T w' T'∧(addE p d A T≠0→T'=T)∧(addE p d A T=0→∃ n u,u∈T.L∧u.nm=(splitL p).dropLast∧n.nm=splitL p∧n.ino=T.most+1∧n.at_=A∧n.data=d∧n.tick=0∧T'={T with clock:=T.clock+1,most:=T.most+1,L:=tickT [n.p,u.p] ((T.clock+1:Nat):Int) (insT n T.L)}):=by
 obtain⟨he,hno,hyes⟩:=h
 refine⟨he,?_⟩
 by_cases h0:addE p d A T=0
 · obtain⟨n,u,hu,hun,hn,hi,ha,hdd,ht,htree,hturn,hnew⟩:=hyes h0
   refine⟨_,⟨htree,(Turn.of_below hb).trans hturn (fun y hy=> .inl hy),fun b hb'=>?_,?_⟩,fun h1=>absurd h0 h1,fun _=>⟨n,u,hu,hun,hn,hi,ha,hdd,ht,rfl⟩⟩
   · have hnew':∀ b∈ownE n++xob n.at_.xs n.xv,w0.heap.size≤b:=fun b hb2=>Nat.le_trans hb.size (hnew b hb2)
     rw[List.mem_append] at hb' ⊢
     rcases hb' with hb'|hb'
     · have hb':b∈ownL (tickT [n.p,u.p] _ (insT n T.L)):=hb'
       rw[own_tickT,(own_ins n T.L).mem_iff,List.mem_append] at hb'
       rcases hb' with hb'|hb'
       · exact .inr (hnew' b (by simp[hb']))
       · exact .inl (.inl hb')
     · obtain⟨x',hx',hb'⟩:=List.mem_flatMap.1 hb'
       have:∃ x∈insT n T.L,b∈xob x.at_.xs x.xv:=by
        obtain⟨x,hx,rfl|rfl⟩:=tickT_mem hx'
        · exact⟨_,hx,hb'⟩
        · exact⟨x,hx,hb'⟩
       obtain⟨x,hx,hb2⟩:=this
       rcases mem_insT.1 hx with rfl|hx
       · exact .inr (hnew' b (by simp[hb2]))
       · exact .inl (.inr (List.mem_flatMap.2 ⟨x,hx,hb2⟩))
   · have hE:=h0
     rw[addE] at hE
     split at hE
     · cases hE
     · next hs=>
       split at hE
       · cases hE
       · next hck=>
         split at hE
         · cases hE
         · next hgn=>
           split at hE
           · next h5=>exact absurd hE h5
           · split at hE
             · cases hE
             · next h6=>
               have hgn':getT (splitL p) T.L=none:=by
                cases hq:getT (splitL p) T.L with
                |none=>rfl
                |some x=>rw [hq] at hgn;exact absurd rfl hgn
               refine .add n u hu ⟨by rw[hn];exact hT.root_path hgn',by rw[hn];exact hun⟩ (by rw[hn];exact hgn') hi ht (by omega) ?_ ?_ ⟨by rw[hn];exact hkk,fun s hs=>splitL_chk (by rw[hn] at hs;exact hs)⟩
               · rw[hdd];rcases hd with hd|hd
                 · exact hd
                 · exact absurd h0 hd
               · rw[ha];by_cases hA:chkA A=true
                 · exact hA
                 · exact absurd (.inl (by simpa using hA)) hck
 · obtain⟨h1,h2⟩:=hno h0
   exact⟨T,⟨h1,Turn.of_below (hb.trans (h2.mono hb.size)),fun _ h=> .inl h,.same T⟩,fun _=>rfl,fun h=>absurd h h0⟩
def DeepOk (B r:Nat) (T:Tr) (e:TE):Prop:=∀ (w:World),TreeAt B w r T→
 Calls Tryz.prog 66 #[ptr e.p] w fun x w'=>x= .returned (.int .i64 (deepN T.L e.nm:Int))∧Below w.heap.size w w'
theorem str_inv (key:Value) (kl:Lit) (h:keyOf Tryz.prog 9 key=some kl):∃ x,key=Value.string x:=by
 obtain⟨s,rfl,_⟩:=string_of_keyOf Tryz.underlying9 h
 exact⟨s,rfl⟩
theorem held_inv (v:Value) (y:DataW Value×List MemPlace) (_h:Rv v=some y):∃ c,v=id c:=⟨v,rfl⟩
theorem deep_step (B r:Nat) (T:Tr) (hM:∀ e∈T.L,e.nm.length≤1000) (e:TE) (he:e∈T.L) (ih:∀ x∈T.L,∀ s,x.nm=e.nm++[s]→DeepOk B r T x):DeepOk B r T e:=by
 intro w h
 have mixed:Tryz.prog.follows Departure.mixedOrders=true:=by kernel_rfl
 have H:=hid h;have HE:=hid he;have IH:=hid ih;have HM:=hid hM
 have c10:w.cell? ⟨e.p,10,none⟩=some (mapV e.m):=cell_of_heap (h.node e he).cells
 have HDB:Hid (deepN T.L e.nm≤1000):=hid (deepN_bound hM)
 clear ih hM
 unfold ptr at*
 cases hm:e.m with
 |none=>
  have hd:deepN T.L e.nm=0:=Nat.le_zero.1 (deep_of h.parT (fun s ⟨x,hx,hxn⟩=>by
   obtain⟨u,hu,h1,h2⟩:=h.par x hx _ _ hxn
   rw[srtT_inj h.srt hu he h1] at h2
   exact absurd hm h2))
  rw[hm] at c10
  have HD:=hid hd
  unfold mapV at c10
  clear h he hd
  go_enter Tryz.func66,Tryz.ntmps66
  have hrn:=run_range_nilMap (P:=Tryz.prog) w 80 _ _ Tryz.underlying80
  have hnx:=fun ty=>run_next_nilMap (P:=Tryz.prog) w ty 0 0 #[]
  go_wp2
  go_loopw [3] (fun v3 wr=>v3= .int .i64 0∧wr=w.alloc (.mapIter none 0 #[] 0)) (fun _ _=>0)
  case atStart=>exact ⟨rfl,rfl⟩
  case round=>
   obtain⟨rfl,rfl⟩:=hrel
   go_wp2
   go_ret
   rw[HD.out]
   exact⟨rfl,(Below.refl _ _).alloc (Nat.le_refl _) _⟩
 |some b=>
  have HMP:=hid ((h.node e he).kids b hm)
  rw[hm] at c10
  unfold mapV at c10
  have HBW:Hid (b < w.heap.size):=hid ((h.node e he).kids b hm).lt
  clear h he
  go_enter Tryz.func66,Tryz.ntmps66
  go_wp2_with (first
   |(at_range;refine wpList_range_own _ rfl _ 80 rfl 9 74 law Tryz.underlying80 Rv b 1000000 (toD ptr (kidsT T.L e.nm)) rfl HMP.out ?_;intro w0 hrg0 hg0 hs0)
   |go_in)
  go_frame
  have HB0:Hid (Below w.heap.size w w0):=hid ((Below.refl _ w).grown hg0 (Nat.le_refl _) (by simp))
  have HRG0:=hid hrg0
  clear hrg0 hg0 hs0 c10
  go_loopw [3] (fun v3 wr=>∃ (left:Lit→Bool) (cnt:Nat) (most:Nat),v3= .int .i64 (most:Int)∧Hid (wr.ranges Tryz.prog 9 Rv b w.heap.size 1000000 (toD ptr (kidsT T.L e.nm)) left cnt)∧Hid (most≤deepN T.L e.nm∧∀ k,(getM (kidsT T.L e.nm) k).isSome=true→left (.string k)=false→1+deepN T.L (e.nm++[k])≤most)∧Hid (Below w.heap.size w wr)) (fun _ wr=>wr.rangeLeft b w.heap.size)
  case atStart=>
   refine⟨_,_,0,rfl,HRG0,hid ⟨Nat.zero_le _,fun k hk hl=>?_⟩,HB0⟩
   rw[toD_has,hk] at hl;cases hl
  case round=>
   obtain⟨left,cnt,most,rfl,HR,HS,HB⟩:=hrel
   go_wp2_with (first
    |(at_next;refine wpList_next_ranges (α:=ByteArray) (β:=Value) _ rfl _ rfl 9 law Rv Value.string id str_inv held_inv b w.heap.size 1000000 _ _ _ (by first|rfl|simp[Act.eval,World.setCell]) HR.out ?_ ?_)
    |go_in)
   · intro _ hl0
     have hd:most=deepN T.L e.nm:=Nat.le_antisymm HS.out.1 (deep_of H.out.parT (fun s ⟨x,hx,hxn⟩=>HS.out.2 s (by
      rw[kidsT_get H.out.srt]
      have:=getT_of H.out.srt hx
      rw[hxn] at this
      rw[this];rfl) (hl0 _)))
     subst hd
     clear hl0
     go_wp2
     go_ret
     exact⟨rfl,HB.out⟩
   · intro x c kl yd yp w2 cnt1 hkey hlx hv hat hrg1 hlt hg1 hs1 hen
     obtain⟨x',ex,ekl,hxl⟩:=string_of_keyOf Tryz.underlying9 hkey
     injection ex with ex
     subst ex
     subst ekl
     have hv2:yd= .held c:=by
      have:=congrArg Prod.fst (Option.some.inj hv)
      exact this.symm
     subst hv2
     have hhas:=has_true_of_atKey hat
     rw[toD_has] at hhas
     obtain⟨q,hq⟩:=Option.isSome_iff_exists.1 hhas
     have hcn:=hat (.held .nilIface)
     rw[toD_at,hq] at hcn
     injection hcn with hcn
     have hcn':ptr q=c:=hcn
     subst hcn'
     rw[kidsT_get H.out.srt] at hq
     obtain⟨kn,hkn,rfl⟩:∃ kn,getT (e.nm++[x.data.toList]) T.L=some kn∧kn.p=q:=by
      cases hg:getT (e.nm++[x.data.toList]) T.L with
      |none=>rw [hg] at hq;cases hq
      |some kn=>rw [hg] at hq;exact⟨kn,rfl,Option.some.inj hq⟩
     obtain⟨hkm,hknm⟩:=getT_nm hkn
     have hb2:Below w.heap.size w w2:=HB.out.grown hg1 HB.out.size (fun y hy=>by obtain rfl:=Option.some.inj hy;exact Nat.le_refl _)
     have CL:=IH.out kn hkm _ hknm w2 (H.out.below hb2)
     have hk1:1+deepN T.L kn.nm≤deepN T.L e.nm:=by rw[hknm];exact deep_kid ⟨kn,hkm,hknm⟩
     have HB2:=hid hb2;have HRG:=hid hrg1;have HLT:=hid hlt
     have CL:=hid CL
     have hd1:=HDB.out
     have hd2:deepN T.L kn.nm≤1000:=by omega
     have hms:most≤1000:=Nat.le_trans HS.out.1 HDB.out
     have hwr:IntKind.i64.wrap (1+(deepN T.L kn.nm:Int))=1+(deepN T.L kn.nm:Int):=by rw[IntKind.wrap_i64];omega
     have HK1:=hid hk1;have HKN:=hid hknm
     have hrw:w.heap.size < w2.heap.size:=hrg1.lt
     have HBL:=hid (Nat.lt_of_lt_of_le HBW.out hb2.size)
     clear hv hat hhas hcn hq hkn hkm hknm hb2 hrg1 hlt hkey hlx hg1 hk1 hd1
     unfold ptr at CL hen ⊢
     try dsimp only[id] at hen ⊢
     go_wp2_with fail
     refine CL.out.mono ?_
     rintro ex w3 ⟨rfl,hb3⟩
     have HR3:Hid (w3.ranges Tryz.prog 9 Rv b w.heap.size 1000000 (toD ptr (kidsT T.L e.nm)) (fun z=>left z && !z.sameKey (.string x.data.toList)) cnt1):=hid (by
      obtain⟨es,clock,since,seen,c0,h1,h2,h3,h4,h5,h6⟩:=HRG.out
      exact⟨es,clock,since,seen,c0,(hb3.block b HBL.out).trans h1,h2,h3,h4,(hb3.block _ hrw).trans h5,h6⟩)
     have HB3:=hid (HB2.out.trans (hb3.mono HB2.out.size))
     clear hb3 CL
     go_wp2
     go_roundw
     case rel=>
      refine⟨_,cnt1,max most (1+deepN T.L kn.nm),?_,HR3,hid ⟨Nat.max_le.2 ⟨HS.out.1,HK1.out⟩,fun k hk hl=>?_⟩,HB3⟩
      · go_num
      · simp only[Bool.and_eq_false_iff,Bool.not_eq_false',sameKey_string,beq_iff_eq] at hl
        rcases hl with hl|rfl
        · exact Nat.le_trans (HS.out.2 k hk hl) (Nat.le_max_left _ _)
        · rw[←HKN.out];exact Nat.le_max_right _ _
     case measure=>
      rw[HR3.out.left_eq,HR.out.left_eq];exact HLT.out
theorem deep_any (B r:Nat) (T:Tr) (hM:∀ e∈T.L,e.nm.length≤1000):∀ (k:Nat) (e:TE),e∈T.L→1000≤e.nm.length+k→DeepOk B r T e
 |0,e,he,hk=>deep_step B r T hM e he (fun x hx s hxn=>by
   have h1:=hM x hx
   have h2:=congrArg List.length hxn
   rw[List.length_append] at h2
   simp at h2
   omega)
 |k+1,e,he,hk=>deep_step B r T hM e he (fun x hx s hxn=>deep_any B r T hM k x hx (by
   have h2:=congrArg List.length hxn
   rw[List.length_append] at h2
   simp at h2
   omega))
end Go.Proofs.YtnmejonfdfdegaaGreatDoor.Sr
