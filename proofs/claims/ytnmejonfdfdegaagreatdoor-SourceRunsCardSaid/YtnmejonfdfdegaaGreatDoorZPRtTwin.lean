import Derived.Test.YtnmejonfdfdegaaGreatDoorZPRtClear
import Derived.Test.YtnmejonfdfdegaaGreatDoorZPRtAttr
import Derived.Test.YtnmejonfdfdegaaGreatDoorZPSrSort
import Derived.Deep.CutBlock
import Derived.StillTailTactics
set_option linter.unusedSimpArgs false
set_option linter.unusedVariables false
set_option maxHeartbeats 16000000
set_option maxRecDepth 100000
namespace Go.Proofs.YtnmejonfdfdegaaGreatDoor.Sr
open Go.RowKit Go.Maps Go.WideMaps Rf Go.Proofs.YtnmejonfdfdegaaGreatDoor.Nm St
open Lib (hid)
theorem tw_grown {X:List Nat} {a b c:World} (h:Turn X a b) {row:Option Nat} (hg:b.grownBy c row) (hr:∀ k∈row.toList,k∈X):Turn X a c:=
 ⟨hg.os.trans h.os,hg.tape.trans h.tape,hg.output.trans h.output,Nat.le_trans h.size hg.size,fun k hk hx=>(hg.block k (Nat.lt_of_lt_of_le hk h.size) (fun e=>hx (hr k (by rw[←e];simp)))).trans (h.block k hk hx)⟩
structure TwJ (B:Nat) (w wr:World) (R:List RN) (F:Tr) (i:Nat) (v2:Value) (R2:List RN):Prop where
 book:wr.heap[w.heap.size]? =some (.cells #[v2,.int .i64 (F.clock:Int),.int .u64 (F.most:Int),.int .i64 (F.reads:Int)] RtT)
 row:wr.ownsRow (w.heap.size+1) RnT 11 v2 R2.length (rcells R2)
 len:R2.length=i
 te:R2.map RN.te=(R.take i).map RN.te
 node:∀ n∈R2,PathAt B wr n.nv n.nm∧XsAt wr n.xv n.at_.xs
 apart:∀ b∈robL R2,B≤b∧b≠w.heap.size∧b ∉ ob v2
 old:∀ b∈robL R2,b∈robL R∨w.heap.size≤b
 below:Below w.heap.size w wr
section
variable {B:Nat} {w wr w7:World} {R R2:List RN} {F:Tr} {i:Nat} {v2 v7 xv':Value} {n:RN}
theorem TwJ.lt (h:TwJ B w wr R F i v2 R2):∀ b∈robL R2,b < wr.heap.size:=by
 intro b hb
 obtain⟨m,hm,hb⟩:=List.mem_flatMap.1 hb
 rcases List.mem_append.1 hb with hb|hb
 · exact rowS_lt (h.node m hm).1.row b hb
 · exact(h.node m hm).2.lt b hb
theorem TwJ.kept (h:TwJ B w wr R F i v2 R2) (hb:Below wr.heap.size wr w7):TwJ B w w7 R F i v2 R2:=
 ⟨(hb.block _ (lt_of_heap h.book)).trans h.book,rowS_kept h.row (fun b _ hl=>hb.block b hl),h.len,h.te,fun m hm=>
   ⟨(h.node m hm).1.kept (fun b hx=>hb.block b (h.lt b (robL_mem hm (List.mem_append_left _ hx)))),(h.node m hm).2.kept hb.size (fun b hx=>hb.block b (h.lt b (robL_mem hm (List.mem_append_right _ hx))))⟩,h.apart,h.old,h.below.trans (hb.mono h.below.size)⟩
theorem TwJ.step (h:TwJ B w wr R F i v2 R2) (hBw:B≤w.heap.size) (hi:R[i]? =some n) (hn:PathAt B wr n.nv n.nm) (hnb:∀ b∈ob n.nv,b∈robL R∧B≤b∧b < w.heap.size) (ht:Turn (ob v2) wr w7)
 (ho:w7.ownsRow (w.heap.size+1) RnT 11 v7 (R2.length+1) (rcells R2++RN.cells {n with xv:=xv'})) (hv:v7.ownBlock=v2.ownBlock∨∃ s,v7.ownBlock=some s∧wr.heap.size≤s) (hx:XsAt wr xv' n.at_.xs) (hxo:∀ b∈xob n.at_.xs xv',w.heap.size < b∧b ∉ ob v2):
 TwJ B w (w7.setCell ⟨w.heap.size,0,none⟩ v7) R F (i+1) v7 (R2++[{n with xv:=xv'}]):=by
 have hlt0:=lt_of_heap h.book
 have hxl:=hx.lt
 have hge2:=rowS_ge h.row
 have hge7:=rowS_ge ho
 have hsz:w.heap.size≤wr.heap.size:=h.below.size
 have hob:∀ b,b < wr.heap.size→b ∉ ob v2→b ∉ ob v7:=by
  intro b hb hn2 hb7
  rcases hv with hv|⟨s,hv,hs⟩
  · exact hn2 (by rw[ob,←hv];exact hb7)
  · rw[ob,hv] at hb7
    simp at hb7
    omega
 have hkeep:∀ b,b < wr.heap.size→b≠w.heap.size→b ∉ ob v2→(w7.setCell ⟨w.heap.size,0,none⟩ v7).heap[b]? =wr.heap[b]? :=fun b h1 h2 h3=>(Below.heap_setCell _ _ _ _ h2).trans (ht.block b h1 h3)
 have hs7:wr.heap.size≤(w7.setCell ⟨w.heap.size,0,none⟩ v7).heap.size:=by rw[World.size_setCell];exact ht.size
 have hrob:robL (R2++[{n with xv:=xv'}])=robL R2++(ob n.nv++xob n.at_.xs xv'):=by
  rw[robL,List.flatMap_append];simp[robL,robN]
 refine⟨?_,?_,?_,?_,?_,?_,?_,?_⟩
 · have h0:w7.heap[w.heap.size]? =some (.cells #[v2,.int .i64 (F.clock:Int),.int .u64 (F.most:Int),.int .i64 (F.reads:Int)] RtT):=(ht.block _ hlt0 (fun hb=>by have:=hge2 _ hb;omega)).trans h.book
   rw[setCell_heap _ _ _ _ _ _ h0];rfl
 · rw[List.length_append,←rcells_one]
   exact rowS_kept ho (fun b hb _=>Below.heap_setCell _ _ _ _ (show b≠w.heap.size by have:=hge7 b hb;omega))
 · rw[List.length_append,h.len];rfl
 · rw[List.map_append,h.te,List.take_add_one,hi,Option.toList_some,List.map_append];rfl
 · intro m hm
   rcases List.mem_append.1 hm with hm|hm
   · exact⟨(h.node m hm).1.kept (fun b hb=>by
      have hr:=robL_mem hm (List.mem_append_left _ hb)
      exact hkeep b (h.lt b hr) (h.apart b hr).2.1 (h.apart b hr).2.2),(h.node m hm).2.kept hs7 (fun b hb=>by
      have hr:=robL_mem hm (List.mem_append_right _ hb)
      exact hkeep b (h.lt b hr) (h.apart b hr).2.1 (h.apart b hr).2.2)⟩
   · rw[List.mem_singleton] at hm
     subst hm
     exact⟨hn.kept (fun b hb=>by
      have:=(hnb b hb).2.2
      exact hkeep b (by omega) (by omega) (fun hc=>by have:=hge2 b hc;omega)),hx.kept hs7 (fun b hb=>hkeep b (hxl b hb) (by have:=(hxo b hb).1;omega) (hxo b hb).2)⟩
 · intro b hb
   rw[hrob,List.mem_append,List.mem_append] at hb
   rcases hb with hb|hb|hb
   · exact⟨(h.apart b hb).1,(h.apart b hb).2.1,hob b (h.lt b hb) (h.apart b hb).2.2⟩
   · have:=hnb b hb
     exact⟨this.2.1,by omega,fun hc=>by have:=hge7 b hc;omega⟩
   · have:=hxo b hb
     exact⟨by omega,by omega,hob b (hxl b hb) this.2⟩
 · intro b hb
   rw[hrob,List.mem_append,List.mem_append] at hb
   rcases hb with hb|hb|hb
   · exact h.old b hb
   · exact .inl (hnb b hb).1
   · exact .inr (by have:=(hxo b hb).1;omega)
 · exact(h.below.trans (ht.below (fun b hb=>by have:=hge2 b hb;omega) hsz)).setCell (p:=⟨w.heap.size,0,none⟩) (Nat.le_refl _) _
theorem TwJ.done {r:Nat} {v:Value} (h:TwJ B w wr R F R.length v2 R2) (H:RTree B w r v R F) (hBw:B≤w.heap.size):RTree B wr w.heap.size v2 R2 F:=
 ⟨h.book,row_mono h.row (by omega),fun b hb=>by have:=rowS_ge h.row b hb;omega,hBw,h.node,h.apart,by rw[h.te,List.take_length];exact H.is⟩
end
def RTwinP (B:Nat) (w:World) (R:List RN) (F:Tr) (e:Ending) (w':World):Prop:=
 ∃ r2 v2 R2,e= .returned (ptr r2)∧RTree B w' r2 v2 R2 F∧(∀ b∈r2::ob v2,w.heap.size≤b)∧(∀ b∈robL R2,b∈robL R∨w.heap.size≤b)∧Below w.heap.size w w'
def putAll (cur:Array Value):Nat→List Value→Array Value
 |_,[]=>cur
 |o,v::r=>putAll (cur.setIfInBounds o v) (o+1) r
theorem setCells_heap {g:Nat} {T:TypeId}:∀ (vs:List Value) (o:Nat) (w:World) (cur:Array Value),w.heap[g]? =some (.cells cur T)→(w.setCells g o vs).heap[g]? =some (.cells (putAll cur o vs) T)
 |[],_,_,_,h=>h
 |v::r,o,w,cur,h=>setCells_heap r (o+1) _ _ (setCell_heap w g o v cur T h)
theorem box_attr {w:World} {q:Nat} {n:RN} {xv':Value} (h:w.heap[q]? =some (.cells n.cells.toArray RnT)):
 (w.setCells q 1 (n.at_.cells xv')).heap[q]? =some (.cells (RN.cells {n with xv:=xv'}).toArray RnT)∧w.there q 1 7:=by
 constructor
 · rw[setCells_heap _ _ _ _ h]
   have:putAll n.cells.toArray 1 (n.at_.cells xv')=(RN.cells {n with xv:=xv'}).toArray:=by kernel_rfl
   rw[this]
 · intro j hj
   refine⟨?_,frozen_of_heap h⟩
   rw[cell_of_heap h,List.getElem?_toArray,List.getElem?_eq_getElem (by rw[rn_len];omega)];rfl
theorem rtwin_any (B:Nat) (w:World) (r:Nat) (v:Value) (R:List RN) (F:Tr) (k:Nat) (hg:GoodF k F) (hk:k≤1000) (hBw:B≤w.heap.size) (h:RTree B w r v R F):
 Calls Tryz.prog 19 #[ptr r] w (RTwinP B w R F):=by
 obtain⟨i0,hi0,hz0,hz1,hz2⟩:=info_parts infoRn
 have hz3:zeroRn.cells.size=11:=by kernel_rfl
 have hlen:R.length≤2000:=by rw[h.len];have:=hg.len;omega
 have HLEN:=hid hlen
 have H:=hid h;have HG:=hid hg;have HBW:=hid hBw
 obtain⟨va0,vc,rfl⟩:=rowS_slice h.row
 have c1:w.cell? ⟨r,1,none⟩=some (.int .i64 (F.clock:Int)):=cell_of_heap h.book
 have c2:w.cell? ⟨r,2,none⟩=some (.int .u64 (F.most:Int)):=cell_of_heap h.book
 have c3:w.cell? ⟨r,3,none⟩=some (.int .i64 (F.reads:Int)):=cell_of_heap h.book
 have HR:=hid (lt_of_heap h.book)
 clear h hg hBw hlen
 unfold ptr at*
 go_enter Tryz.func19,Tryz.ntmps19
 go_wp2_with fail
 go_still_tail 13,(by kernel_rfl)
 change wpList _ _ _ _ _ w.drew
 obtain⟨W,hW⟩:∃ W,W=(w.alloc (.cells #[.slice none 0 0,.int .i64 (F.clock:Int),.int .u64 (F.most:Int),.int .i64 (F.reads:Int)] 89)).drew:=⟨_,rfl⟩
 have HJ0:Hid (TwJ B w W R F 0 (.slice none 0 0) []):=hid ⟨by rw[hW];exact(MapKept.heap_alloc w _).1,rowS_nil _ _ _ _,rfl,rfl,by simp,by simp[robL],by simp[robL],by rw[hW];exact((Below.refl _ _).alloc (Nat.le_refl _) _).drew⟩
 go_wp2_with fail
 rw[←hW]
 clear hW c1 c2 c3
 go_loopw [4] (fun v4 wr=>∃ i:Nat,i≤R.length∧v4= .int .i64 (i:Int)∧∃ va vc' R2,Hid (TwJ B w wr R F i (.slice va i vc') R2)) (fun v4 _=>R.length - (RowKit.intOf v4).toNat)
 case atStart=>exact ⟨0,Nat.zero_le _,rfl,none,0,[],HJ0⟩
 case round=>
  obtain⟨i,hi,rfl,va,vc',R2,HJ⟩:=hrel
  have c0:wr.cell? ⟨r,0,none⟩=some (.slice va0 R.length vc):=cell_of_heap (H.out.below HJ.out.below).book
  by_cases hil:(i:Int) < (R.length:Int)
  · have hi1:i < R.length:=by omega
    have HIL:=hid hi1
    obtain⟨n,hn⟩:∃ n,R[i]? =some n:=⟨_,List.getElem?_eq_getElem hi1⟩
    have HN:=hid hn
    obtain⟨gv,cap,hv,hgv⟩:=H.out.form (by omega)
    injection hv with e1 e2 e3
    subst e1
    have HENT:=hid ((H.out.below HJ.out.below).ent hn)
    have hnd:=(H.out.below HJ.out.below).node n (List.mem_of_getElem? hn)
    have HPA:=hid hnd.1
    have HON:Hid (n.cells.toArray.all (·.oneCell')=true):=hid (all_oneCell_toArray (rn_ones (strs_one hnd.1.strs) (xs_one hnd.2)))
    have HXN:=hid hnd.2
    have HIN1:=hid (infoRn1 n)
    have HX16:Hid (n.at_.xs.length≤1000):=hid (by have:=fine_of_chkR (HG.out.att n.te (List.mem_of_getElem? (H.out.at_ hn)));have e:n.te.at_=n.at_:=rfl;rw[e] at this;omega)
    have HNB:Hid (∀ b∈ob n.nv,b∈robL R∧B≤b∧b < w.heap.size):=hid (fun b hb=>by
     have hr:=robL_mem (List.mem_of_getElem? hn) (List.mem_append_left _ hb)
     exact⟨hr,(H.out.apart b hr).1,H.out.lt b (by rw[rblk,List.mem_cons,List.mem_append];exact .inr (.inr hr))⟩)
    have HN2:Hid (i≤2000):=hid (by have:=HLEN.out;omega)
    have hi64:(0:Int)≤(i:Int):=by omega
    clear hnd hn hi1 e2 e3 hgv cap hi hi64
    go_upto_region 6 with(first
     |(refine wpList_load_mid rfl _ _ rfl gv (i*11) rfl n.cells _ HENT.out Tryz.underlying86 rfl HIN1.out ?_)
     |(refine Sh.wpList_store_new rfl rfl RnT (.tmp 5) (.tmp 35) rfl n.cells.toArray rfl rfl HIN1.out rfl HON.out ?_
       intro w3 hq3 hb3 hs3
       have HQ3:=hid hq3;have HB3:=hid hb3;have HS3:=hid hs3
       clear hq3 hb3 hs3)
     |fail)
    have HRG:Hid (w3.rangeAt wr.heap.size 1 (n.at_.cells n.xv)):=hid (fun t u hu=>by
     rw[cell_of_heap HQ3.out,List.getElem?_toArray,show (1+t)=t+1 by omega]
     show(n.at_.cells n.xv++_)[t]? =some u
     rw[List.getElem?_append_left (List.getElem?_eq_some_iff.1 hu).1];exact hu)
    have RO:=hid (rown_any w3 n.at_ n.xv (HXN.out.kept HB3.out.size (fun b hb=>HB3.out.block b (HXN.out.lt b hb))) HX16.out)
    go_wp2_with (first
     |(refine wpList_load_mid rfl _ _ rfl wr.heap.size 1 rfl (n.at_.cells n.xv) _ HRG.out Tryz.underlying67 rfl (infoAtR n.at_ n.xv) ?_)
     |fail)
    refine RO.out.mono ?_
    rintro ex w4 ⟨v',rfl,hx4,hf4,hb4⟩
    have hq4:=(hb4.block _ (lt_of_heap HQ3.out)).trans HQ3.out
    have HQ4:=hid hq4
    obtain⟨w5,hw5⟩:∃ w5,w5=w4.setCells wr.heap.size 1 (n.at_.cells v'):=⟨_,rfl⟩
    have HQ5:Hid (w5.heap[wr.heap.size]? =some (.cells (RN.cells {n with xv:=v'}).toArray RnT)):=hid (by rw[hw5];exact(box_attr HQ4.out).1)
    have HTH:=hid (box_attr (xv':=v') HQ4.out).2
    have ho5:∀ b,b≠wr.heap.size→w5.heap[b]? =w4.heap[b]? :=by rw[hw5];exact setCells_other _ _ _ _
    have hs5:w4.heap.size≤w5.heap.size:=by rw[hw5];exact(turn_setCells _ _ _ _).size
    have hlt3:=lt_of_heap HQ3.out
    have HB34:Hid (Below wr.heap.size wr w4):=hid (HB3.out.trans (hb4.mono HB3.out.size))
    have HB45:Hid (Below wr.heap.size wr w5):=hid (by rw[hw5];exact HB34.out.trans ((turn_setCells w4 wr.heap.size 1 (n.at_.cells v')).below (fun b hb=>by simp at hb;omega) HB34.out.size))
    have HX5:Hid (XsAt w5 v' n.at_.xs):=hid (hx4.kept hs5 (fun b hb=>ho5 b (by have:=hf4 b hb;omega)))
    have HJ5:=hid (HJ.out.kept HB45.out)
    have HXO:Hid (∀ b∈xob n.at_.xs v',w.heap.size < b∧b ∉ ob (.slice va i vc')):=hid (fun b hb=>by
     have h1:=hf4 b hb
     have h2:=HJ.out.below.size
     exact⟨by omega,fun hc=>by have:=rowS_lt HJ.out.row b hc;omega⟩)
    have HAT:=hid (atOne n.at_ (xs_one hx4))
    have HONS:Hid (∀ u∈RN.cells {n with xv:=v'},u.oneCell'=true):=hid (rn_ones (n:={n with xv:=v'}) (strs_one HPA.out.strs) (xs_one hx4))
    have HIN:=hid (infoRn1 {n with xv:=v'})
    have HPA5:Hid (PathAt B w5 n.nv n.nm):=hid (HPA.out.kept (fun b hb=>by
     have h1:=(HNB.out b hb).2.2
     have h2:=HJ.out.below.size
     exact HB45.out.block b (by omega)))
    have HOW:Hid (w5.ownsRow (w.heap.size+1) RnT 11 (.slice va i vc') i (rcells R2)):=hid (by have:=HJ5.out.row;rw[HJ5.out.len] at this;exact this)
    have HSZ:Hid (w.heap.size+1≤w5.heap.size):=hid (lt_of_heap HJ5.out.book)
    have HLT:Hid (w.heap.size < wr.heap.size):=hid (lt_of_heap HJ.out.book)
    have HOL:Hid (∀ b∈ob (.slice va i vc'),w.heap.size < b∧b < wr.heap.size):=hid (fun b hb=>⟨by have:=rowS_ge HJ.out.row b hb;omega,rowS_lt HJ.out.row b hb⟩)
    have HBK:Hid (∀ w',Turn (ob (.slice va i vc')) w5 w'→w'.heap[w.heap.size]? =some (.cells #[.slice va i vc',.int .i64 (F.clock:Int),.int .u64 (F.most:Int),.int .i64 (F.reads:Int)] RtT)):=hid (fun w' ht=>
     (ht.block _ (lt_of_heap HJ5.out.book) (fun hb=>by have:=(HOL.out _ hb).1;omega)).trans HJ5.out.book)
    have KR:Hid (∀ w',Turn (ob (.slice va i vc')) w5 w'→w'.cell? ⟨w.heap.size,0,none⟩=some (.slice va i vc')∧w'.rangeAt wr.heap.size 0 (RN.cells {n with xv:=v'})):=hid (fun w' ht=>by
     refine⟨cell_of_heap (HBK.out w' ht),fun t u hu=>?_⟩
     have h5:=(ht.block _ (lt_of_heap HQ5.out) (fun hb=>by have:=(HOL.out _ hb).2;omega)).trans HQ5.out
     rw[cell_of_heap h5,List.getElem?_toArray,Nat.zero_add];exact hu)
    have KF:Hid (∀ w',Turn (ob (.slice va i vc')) w5 w'→w'.frozen? ⟨w.heap.size,0,none⟩=false):=hid (fun w' ht=>frozen_of_heap (HBK.out w' ht))
    have HEQ:=hid hw5
    clear hx4 hf4 hb4 hq4 ho5 hs5 hlt3 hw5 RO HRG HENT
    go_wp2_with (first
     |(refine wpList_store_mid rfl AtR (.tmp 39) (.tmp 38) rfl wr.heap.size 1 (n.at_.cells v').toArray rfl rfl HTH.out (infoAtR _ _) HAT.out ?_)
     |fail)
    rw[←HEQ.out]
    clear HEQ
    simp only[Act.put]
    clear c0
    refine region_held (S:=(fun w':World=>w'.cell? ⟨w.heap.size,0,none⟩=some (.slice va i vc')∧w'.rangeAt wr.heap.size 0 (RN.cells {n with xv:=v'}))) (k:=10) (by kernel_rfl) (KR.out w5.drew (Turn.refl _ w5).drew) (fun zh=>?_)
    refine held_take (i:=0) (v:=?_) rfl (by kernel_rfl) (by kernel_rfl) (by kernel_rfl) (by kernel_rfl) (fun _ _ _ h=>h) (Or.inl ⟨by rfl,?tw0⟩) zh ?_
    case tw0=>intro wS hS;have k0:=hS.1;clear hS;go_simp;try rfl
    try simp only[Act.put,zA,zB,zC,zD,zE,zF]
    refine held_take (i:=1) (v:=?_) rfl (by kernel_rfl) (by kernel_rfl) (by kernel_rfl) (by kernel_rfl) (fun _ _ _ h=>h) (Or.inl ⟨by rfl,?tw1⟩) zh ?_
    case tw1=>intro wS hS;have k0:=hS.1;clear hS;go_simp;try rfl
    try simp only[Act.put,zA,zB,zC,zD,zE,zF]
    refine held_take (i:=2) (v:=?_) rfl (by kernel_rfl) (by kernel_rfl) (by kernel_rfl) (by kernel_rfl) (fun _ _ _ h=>h) (Or.inl ⟨by rfl,?tw2⟩) zh ?_
    case tw2=>intro wS hS;have k0:=hS.1;clear hS;go_simp;try rfl
    try simp only[Act.put,zA,zB,zC,zD,zE,zF]
    refine held_take (i:=3) (v:=?_) rfl (by kernel_rfl) (by kernel_rfl) (by kernel_rfl) (by kernel_rfl) (fun _ _ _ h=>h) (Or.inl ⟨by rfl,?tw3⟩) zh ?_
    case tw3=>intro wS hS;have k0:=hS.1;clear hS;go_simp;try rfl
    try simp only[Act.put,zA,zB,zC,zD,zE,zF]
    refine held_take (i:=4) (v:=?_) rfl (by kernel_rfl) (by kernel_rfl) (by kernel_rfl) (by kernel_rfl) (fun _ _ _ h=>h) (Or.inl ⟨by rfl,?tw4⟩) zh ?_
    case tw4=>intro wS hS;have k0:=hS.1;clear hS;go_simp;try rfl
    try simp only[Act.put,zA,zB,zC,zD,zE,zF]
    refine' held_take (i:=5) (v:=_) rfl (by kernel_rfl) (by kernel_rfl) (by kernel_rfl) (by kernel_rfl) (fun _ _ _ h=>h) (yieldsIf_load_mid (by rfl) _ _ rfl wr.heap.size 0 rfl (RN.cells {n with xv:=v'}) _ ?tw5S ?tw5u ?tw5d ?tw5i) zh ?tw5x
    case tw5S=>intro wS hS;exact hS.2
    case tw5u=>exact Tryz.underlying86
    case tw5d=>rfl
    case tw5i=>exact HIN.out
    try simp only[Act.put,zA,zB,zC,zD,zE,zF]
    refine held_ready (rs:=[6]) (by kernel_rfl) (by simp) ?_
    refine AllHeld.cons rfl (fun K hK=>?_) AllHeld.nil
    refine step_wp rfl ?_
    refine wp_oneH 11 (by decide) (by decide) 87 RnT (.tmp 45) (RN.cells {n with xv:=v'}) i0 _ rfl ?ob Tryz.underlying87 hi0 hz0 hz1 rfl ?_
    case ob=>rfl
    intro x6 w6 hh6 hg6 hx6 hs6
    have HB6:Hid (Below w5.heap.size w5 w6):=hid ((Below.refl w5.heap.size w5).drew.grown hg6 (Below.refl w5.heap.size w5).drew.size (fun k hk=>nomatch hk))
    have HH6:=hid hh6
    clear hh6 hg6 hx6 hs6
    have ka:=KR.out w6 (Turn.of_below HB6.out)
    refine hK.out _ _ (fun _=>ka) (fun zh=>?_)
    clear hK K
    have zh:=zh (by decide)
    try simp only[Act.put,zA,zB,zC,zD,zE,zF]
    refine held_ready (rs:=[7]) (by kernel_rfl) (by simp) ?_
    refine AllHeld.cons rfl (fun K hK=>?_) AllHeld.nil
    refine step_wp rfl ?_
    refine wp_append_holdN 11 (by decide) (.tmp 44) (.tmp 46) 87 rfl (w.heap.size+1) RnT i0 _ 120 Tryz.underlying87 hi0 hz0 hz1 hz2 hz3 (.slice va i vc') i (rcells R2) ?aa (rowS_kept HOW.out (fun y _ hl=>HB6.out.block y hl)) x6 1 (RN.cells {n with xv:=v'}) ?ab HH6.out ?ac ?ad ?ae ?af ?ag ?ah
    case aa=>rfl
    case ab=>rfl
    case ac=>rfl
    case ad=>exact HONS.out
    case ae=>have:=HN2.out;unfold maxLen;omega
    case af=>have:=HN2.out;omega
    case ag=>have:=HB6.out.size;have:=HSZ.out;omega
    intro v7 w7 ho7 hg7 hx7
    obtain⟨a7,c7,rfl⟩:=rowS_slice ho7
    have HT7:Hid (Turn (ob (.slice va i vc')) w5 w7):=hid (tw_grown (Turn.of_below HB6.out) hg7 (fun k hk=>hk))
    have HX7:Hid ((Value.slice a7 (i+1) c7).ownBlock=(Value.slice va i vc').ownBlock∨∃ s,(Value.slice a7 (i+1) c7).ownBlock=some s∧w5.heap.size≤s):=hid (hx7.imp id (fun h=>⟨w6.heap.size,h,HB6.out.size⟩))
    have HO7:=hid ho7
    clear ho7 hg7 hx7
    have ka:=KR.out w7 HT7.out
    have kf:w7.frozen? ⟨w.heap.size,0,none⟩=false:=KF.out w7 HT7.out
    refine hK.out _ _ (fun _=>ka) (fun zh=>?_)
    clear hK K
    have zh:=zh (by decide)
    try simp only[Act.put,zA,zB,zC,zD,zE,zF]
    refine held_ready (rs:=[8]) (by kernel_rfl) (by simp) ?_
    refine AllHeld.cons rfl (fun K hK=>?_) AllHeld.nil
    have ka1:=ka.1
    go_simp
    refine hK.out _ _ (fun _=>ka) (fun zh=>?_)
    clear hK K
    have zh:=zh (by decide)
    try simp only[Act.put,zA,zB,zC,zD,zE,zF]
    refine held_ready (rs:=[9]) (by kernel_rfl) (by simp) ?_
    refine AllHeld.cons rfl (fun K hK=>?_) AllHeld.nil
    have ka1:=ka.1
    go_simp
    refine hK.out _ _ (fun _=>ka) (fun zh=>?_)
    clear hK K
    have zh:=zh (by decide)
    try simp only[Act.put,zA,zB,zC,zD,zE,zF]
    refine held_ready (rs:=[10]) (by kernel_rfl) (by simp) ?_
    refine AllHeld.cons rfl (fun K hK=>?_) AllHeld.nil
    have ka1:=ka.1
    go_simp
    refine hK.out _ _ (fun h=>absurd rfl h) (fun _=>?_)
    clear hK K
    try simp only[Act.put,zA,zB,zC,zD,zE,zF]
    refine held_done (by kernel_rfl) ?_ _
    clear zh
    try simp only[Act.put,zA,zB,zC,zD,zE,zF]
    have hl1:=HIL.out;have hl2:=HLEN.out
    go_wp2
    go_roundw
    case rel=>
     refine⟨i+1,by have:=HIL.out;omega,by go_num,a7,c7,R2++[{n with xv:=v'}],hid ?_⟩
     exact HJ5.out.step HBW.out HN.out HPA5.out HNB.out HT7.out (by rw[HJ5.out.len];exact HO7.out) HX7.out HX5.out HXO.out
    case measure=>have:=HIL.out;simp[RowKit.intOf];omega
  · obtain rfl:i=R.length:=by omega
    go_wp2
    go_ret
    exact⟨w.heap.size,_,R2,rfl,HJ.out.done H.out HBW.out,fun b hb=>by
     rcases List.mem_cons.1 hb with rfl|hb
     · exact Nat.le_refl _
     · have:=rowS_ge HJ.out.row b hb;omega,HJ.out.old,HJ.out.below⟩
end Go.Proofs.YtnmejonfdfdegaaGreatDoor.Sr
