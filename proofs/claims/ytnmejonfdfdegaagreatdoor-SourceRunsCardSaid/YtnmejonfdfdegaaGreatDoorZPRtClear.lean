import Derived.Test.YtnmejonfdfdegaaGreatDoorZPRtXattr
import Derived.Test.YtnmejonfdfdegaaGreatDoorZPSrAlike
import Derived.Test.YtnmejonfdfdegaaGreatDoorZPSrTwin
import Derived.Test.YtnmejonfdfdegaaGreatDoorZPSrHapp
import Derived.Test.YtnmejonfdfdegaaGreatDoorZPRtPut
import Derived.Test.YtnmejonfdfdegaaGreatDoorZPRtMake
import Derived.Test.YtnmejonfdfdegaaGreatDoorZPRtAttr
import Derived.Test.YtnmejonfdfdegaaGreatDoorZPMvR8
import Derived.Test.YtnmejonfdfdegaaGreatDoorZPRtLook
import Derived.Test.YtnmejonfdfdegaaGreatDoorZPSrStat
set_option linter.unusedSimpArgs false
set_option linter.unusedVariables false
set_option maxHeartbeats 16000000
set_option maxRecDepth 100000
namespace Go.Proofs.YtnmejonfdfdegaaGreatDoor.Sr
open Go.RowKit Go.Maps Go.WideMaps Rf Go.Proofs.YtnmejonfdfdegaaGreatDoor.Nm St
open Lib (hid)
theorem rclear_any (B:Nat) (w:World) (r:Nat) (v:Value) (R:List RN) (F:Tr) (k:Nat) (p s:List UInt8) (hT:Tabs w) (hp:p.length≤4611686018427387904) (hs:s.length≤maxLen) (hg:GoodF k F) (hk:k≤1000) (hc:F.clock≤1000000) (hB:B≤w.heap.size) (h:RTree B w r v R F):
 Calls Tryz.prog 51 #[ptr r,.string ⟨p.toArray⟩,.string ⟨s.toArray⟩] w (RPost B w r v R (if clearE p s F=0 then setN p (fun n=>{n with at_:=clearA s n.at_}) F else F) (clearE p s F)):=by
 have hlen:R.length≤1000000:=by rw[h.len];have:=hg.len;omega
 have FI:=rfind_any B w r v R F p hT hp hg.srt hlen h
 have H:=hid h;have HG:=hid hg;have HT:=hid hT
 obtain⟨F2,hF2⟩:∃ F2,F2=if clearE p s F=0 then setN p (fun n=>{n with at_:=clearA s n.at_}) F else F:=⟨_,rfl⟩
 obtain⟨c2,hc2⟩:∃ c2,c2=clearE p s F:=⟨_,rfl⟩
 rw[←hF2,←hc2]
 have NO:Hid (∀ (w1:World) (c:Int),Below w.heap.size w w1→clearE p s F=c→c≠0→RPost B w r v R F2 c2 (.returned (.int .i64 c)) w1):=hid (fun w1 c hb he hn=>by
  rw[hF2,hc2,if_neg (by rw[he];exact hn),he]
  exact rpost_same H.out hb rfl)
 have HF2:=hid hF2;have HC2:=hid hc2
 obtain⟨va,vc,rfl⟩:=rowS_slice h.row
 have hfe0:findE p F.L=if splitE p=0 then(if (getT (splitL p) F.L).isSome then 0 else 6) else 10:=rfl
 clear h hT hg hF2 hc2
 unfold ptr at*
 by_cases hf:findE p F.L=0
 case neg=>
  have HC:Hid (clearE p s F=findE p F.L):=hid (by
   rw[clearE,hfe0]
   by_cases h0:splitE p=0
   · rw[if_neg (by rw[h0];decide),if_pos h0]
     rw[hfe0,if_pos h0] at hf
     cases hgt:getT (splitL p) F.L with
     |none=>rfl
     |some n=>rw [hgt] at hf;exact absurd rfl hf
   · rw[if_pos h0,if_neg h0])
  rw[rfind_no hf] at FI
  have FI:=hid FI
  have HN:=hid hf
  obtain⟨c,hc⟩:∃ c,c=findE p F.L:=⟨_,rfl⟩
  have HCF:=hid hc
  rw[←hc] at FI hf
  have hb:(c==0)=false:=by rw[beq_eq_false_iff_ne];exact hf
  have hb2:(c !=0)=true:=by rw[bne,hb];rfl
  clear hf hc hfe0
  go_enter Tryz.func51,Tryz.ntmps51
  go_wp2_with fail
  refine FI.out.mono ?_
  rintro ex w1 ⟨rfl,hb1⟩
  have HB:=hid hb1
  clear FI hb1
  go_wp2
  go_ret
  exact NO.out _ _ HB.out (by rw[HC.out,HCF.out]) (by rw[HCF.out];exact HN.out)
 obtain⟨i,e,hfi,hi,hen,hg',hs0⟩:=rfind_yes HG.out.srt hf
 obtain⟨n,hn,hne⟩:=H.out.get hi
 have hil:i < R.length:=(List.getElem?_eq_some_iff.1 hn).1
 have hilt:(i:Int) < (R.length:Int):=by omega
 have HGE:Hid (getT (splitL p) F.L=some n.te):=hid (by rw[hg',hne])
 have hcf:=fine_of_chk (HG.out.att n.te (List.mem_of_getElem? (H.out.at_ hn)))
 have HCW:Hid (clearE p s F=if seatB s n.at_.xs=false then 6 else chgE (clearA s n.at_) n.te F):=hid (by
  rw[clearE,if_neg (by rw[hs0];decide),HGE.out];rfl)
 have HAT:Hid (attrE p (clearA s n.at_) F=chgE (clearA s n.at_) n.te F):=hid (by
  rw[show clearA s n.at_={n.te.at_ with xs:=delX n.at_.xs (seatN s n.at_.xs)} from rfl,attr_as HGE.out hs0])
 have HRC:Hid ((seatB s n.at_.xs=true→rcA s n.at_.xs=delX n.at_.xs (seatN s n.at_.xs))∧(seatB s n.at_.xs=false→rcA s n.at_.xs=n.at_.xs)):=hid (rc_del s hcf.1)
 have HSL:Hid ((rcA s n.at_.xs).length=n.at_.xs.length ↔ seatB s n.at_.xs=false):=hid (seat_len (s:=s) hcf.1)
 have HSET:Hid (setN p (fun n'=>{n' with at_:=asOf (clearA s n.at_) n'}) F=setN p (fun n'=>{n' with at_:=clearA s n'.at_}) F):=hid (setN_at HGE.out rfl)
 have HX16:n.at_.xs.length≤16:=hcf.2
 rw[hfi,hf] at FI
 have FI:=hid FI
 have HN:=hid hn
 obtain⟨gv,cap,hv,hgv⟩:=H.out.form (by omega)
 injection hv with e1 e2 e3
 subst e1 e3
 have KS:Hid (∀ w2,Below w.heap.size w w2→w2.cell? ⟨r,0,none⟩=some (.slice (some ⟨gv,0,none⟩) R.length vc)∧w2.rangeAt gv (i*11+1) (n.at_.cells n.xv)∧XsAt w2 n.xv n.at_.xs):=hid (fun w2 hb=>by
  have HX:=H.out.below hb
  refine⟨cell_of_heap HX.book,fun t u hu=>?_,(HX.node n (List.mem_of_getElem? HN.out)).2⟩
  have:=HX.ent HN.out (1+t) u (by
   rw[RN.cells,Nat.add_comm 1 t,List.getElem?_cons_succ,List.getElem?_append_left (List.getElem?_eq_some_iff.1 hu).1];exact hu)
  rw[Nat.add_assoc];exact this)
 clear hf hfi hi hen hg' hs0 hn hne e2 hfe0 hcf
 go_enter Tryz.func51,Tryz.ntmps51
 go_wp2_with fail
 refine FI.out.mono ?_
 rintro ex w2 ⟨rfl,hb2⟩
 have HB2:=hid hb2
 clear hb2 FI
 obtain⟨c0,hrg,hxs⟩:=KS.out w2 HB2.out
 have HRG:=hid hrg;have HXS:=hid hxs
 have ON:=hid (atOne n.at_ (xs_one hxs))
 clear hrg hxs
 go_upto_region 5 with(first
  |(refine wpList_load_mid rfl _ _ rfl gv (i*11+1) rfl (n.at_.cells n.xv) _ HRG.out Tryz.underlying67 rfl (infoAtR n.at_ n.xv) ?_)
  |(refine Sh.wpList_store_new rfl rfl AtR (.tmp 9) (.tmp 28) rfl (n.at_.cells n.xv).toArray rfl rfl (infoAtR _ _) rfl ON.out ?_
    intro w3 hq3 hb3 hs3
    have HQ3:=hid hq3;have HB3:=hid hb3
    clear hq3 hb3 hs3)
  |fail)
 obtain⟨xs,hxs⟩:∃ xs,xs=n.at_.xs:=⟨_,rfl⟩
 have hxv:=HXS.out
 rw[←hxs] at hxv HX16 HCW HRC HSL
 obtain⟨xa,xc,hxe,hxm,hxl,hxc⟩:=hxv
 obtain⟨i0,hi0,hz0,hz1,hz2⟩:=info_parts infoXaR
 have hz3:(Value.agg #[.string ⟨#[]⟩,.string ⟨#[]⟩]).cells.size=2:=by kernel_rfl
 have KB:Hid (∀ w',Below w3.heap.size w3 w'→w'.cell? ⟨w2.heap.size,6,none⟩=some (.slice xa xs.length xc)):=hid (fun w' hb=>by
  rw[←hxe];exact cell_of_heap ((hb.block _ (lt_of_heap HQ3.out)).trans HQ3.out))
 have HXC:=hid hxc;have HXL:=hid hxl;have HXE:=hid hxs
 have H16:Hid (xs.length≤16):=hid HX16
 clear hxe hxm hxl hxc hxs c0 HX16
 go_wp2
 go_loopw [10,11] (fun v10 v11 wr=>∃ j:Nat,j≤xs.length∧v11= .int .i64 (j:Int)∧∃ L va vc',v10= .slice va L.length vc'∧Hid (L=rcA s (xs.take j))∧Hid (wr.ownsRow w3.heap.size XaR 2 (.slice va L.length vc') L.length (xcells L))∧Hid (Below w3.heap.size w3 wr)) (fun _ v11 _=>xs.length - (RowKit.intOf v11).toNat)
 case atStart=>exact ⟨0,Nat.zero_le _,rfl,[],none,0,rfl,hid rfl,hid (rowS_nil _ _ _ _),hid (Below.refl _ _)⟩
 case round=>
  obtain⟨j,hj,rfl,L,va,vc',rfl,HL,HO,HB⟩:=hrel
  have c6:=KB.out wr HB.out
  have h16:=H16.out
  have HLL:Hid (L.length≤17):=hid (by have h1:=rcA_len s (xs.take j);have h2:=H16.out;rw[←HL.out,List.length_take] at h1;omega)
  have hll:=HLL.out
  by_cases hil:(j:Int) < (xs.length:Int)
  · have hj1:j < xs.length:=by omega
    obtain⟨x,hx⟩:∃ x,xs[j]? =some x:=⟨_,List.getElem?_eq_getElem hj1⟩
    obtain⟨xb,xo,rfl,hxb,hcl⟩:=HXC.out (fun h=>by rw[h] at hj1;cases hj1)
    obtain⟨hc1,hc2⟩:=hcl j x hx
    have hbw:Below w2.heap.size w2 wr:=HB3.out.trans (HB.out.mono HB3.out.size)
    have cx1:=(World.cell?_of_block (a:=⟨xb,xo+j*2,none⟩) (hbw.block xb hxb)).trans hc1
    have cx2:=(World.cell?_of_block (a:=⟨xb,xo+j*2+1,none⟩) (hbw.block xb hxb)).trans hc2
    have htk:xs.take (j+1)=xs.take j++[x]:=by rw[List.take_add_one,hx];rfl
    have HLN:Hid (rcA s (xs.take (j+1))=L++(if x.1≠s then [x] else [])):=hid (by rw[htk,rcA_snoc,HL.out])
    have HQE:Hid (∀ b∈ob (.slice va L.length vc'),b≠w2.heap.size):=hid (fun b hb=>by have h1:=rowS_ge HO.out b hb;have h2:=lt_of_heap HQ3.out;omega)
    clear hcl hc1 hc2 hbw htk hx
    by_cases heq:x.1=s
    · have q1:(x.1==s)=true:=by simpa using heq
      have HEQ:=hid heq
      clear heq
      go_wp2
      go_roundw
      case rel=>exact ⟨j+1,by omega,by go_num,L,_,_,rfl,hid (by rw[HLN.out];rw[if_neg (show ¬ x.1≠s from fun h=>h HEQ.out)];simp),HO,HB⟩
      case measure=>simp [RowKit.intOf];omega
    · have q1:(x.1==s)=false:=by simpa using heq
      have HNE:=hid heq
      clear heq
      go_wp2_with (first
       |(refine wpList_oneH 2 (by decide) (by decide) rfl 65 XaR (.tmp 49) (xpair x) i0 _ rfl rfl Tryz.underlying65 hi0 hz0 hz1 rfl ?_
         intro yb wab hhb hgb hyb hsb
         have HHb:=hid hhb;have HGb:=hid hgb
         clear hhb hgb hyb hsb)
       |(refine wpList_appendN 2 (by decide) rfl _ _ 65 rfl w3.heap.size XaR i0 _ 32 Tryz.underlying65 hi0 hz0 hz1 hz2 hz3 _ (L.length) (xcells L) rfl (rowS_kept HO.out (fun x _ hl=>HGb.out.block x hl (fun h=>nomatch h))) _ 1 (xpair x) rfl HHb.out rfl (xpair_one x) (by have:=HLL.out;unfold maxLen;simp;omega) (by have:=HLL.out;simp;omega) (Nat.le_trans HB.out.size HGb.out.size) ?_
         intro vb wbb hob hkb hvb
         have HPb:=hid (push_own (y:=x) HO.out HGb.out hob hkb hvb HB.out.size (Nat.lt_of_lt_of_le (lt_of_heap HQ3.out) HB.out.size) HQE.out)
         obtain⟨ab,cb,rfl⟩:=rowS_slice HPb.out.2.1
         have HOb:=hid HPb.out.2.1
         have HBb:Hid (Below w3.heap.size w3 wbb):=hid (HB.out.trans HPb.out.1)
         clear hob hkb hvb HPb HHb HGb)
       |fail)
      go_roundw
      case rel=>exact ⟨j+1,by omega,by go_num,L++[x],_,_,(by rw[List.length_append];rfl),hid (by rw[HLN.out];rw[if_pos HNE.out]),hid (by rw[List.length_append];exact HOb.out),HBb⟩
      case measure=>simp [RowKit.intOf];omega
  · obtain rfl:j=xs.length:=by omega
    have HLX:Hid (rcA s xs=L):=hid (by rw[HL.out,List.take_length])
    have hq0:=(HB.out.block _ (lt_of_heap HQ3.out)).trans HQ3.out
    have f6:wr.frozen? ⟨w2.heap.size,6,none⟩=false:=frozen_of_heap hq0
    by_cases hln:L.length=xs.length
    · have HSB:Hid (seatB s xs=false):=hid (HSL.out.1 (by rw[HLX.out];exact hln))
      have qb:((L.length:Int)==(xs.length:Int))=true:=by rw[beq_iff_eq];omega
      have HBW:Hid (Below w.heap.size w wr):=hid (HB2.out.trans ((HB3.out.trans (HB.out.mono HB3.out.size)).mono HB2.out.size))
      have HC6:Hid (clearE p s F=6):=hid (by rw[HCW.out,if_pos HSB.out])
      clear hln hq0 f6
      go_wp2
      go_ret
      exact NO.out _ _ HBW.out HC6.out (by decide)
    have hsb:seatB s xs=true:=by
     cases hb:seatB s xs with
     |true=>rfl
     |false=>exact absurd (by rw[←HLX.out];exact HSL.out.2 hb) hln
    have HLD:Hid (delX xs (seatN s xs)=L):=hid (by rw[←HLX.out];exact(HRC.out.1 hsb).symm)
    have HWD:Hid (clearE p s F=attrE p (clearA s n.at_) F):=hid (by rw[HCW.out,if_neg (by rw[hsb];decide),HAT.out])
    have qb:((L.length:Int)==(xs.length:Int))=false:=by
     rw[beq_eq_false_iff_ne];omega
    have HML:Hid (∀ x∈L,x∈xs):=hid (fun x hx=>by rw[←HLX.out,rcA] at hx;exact(List.mem_filter.1 hx).1)
    have hbw:Below w.heap.size w (wr.setCell ⟨w2.heap.size,6,none⟩ (.slice va L.length vc')):=(HB2.out.trans ((HB3.out.trans (HB.out.mono HB3.out.size)).mono HB2.out.size)).setCell HB2.out.size _
    have hxe:(clearA s n.at_).xs=L:=by rw[←HLD.out,HXE.out];rfl
    have hsz:w2.heap.size < w3.heap.size:=lt_of_heap HQ3.out
    have ho:(wr.setCell ⟨w2.heap.size,6,none⟩ (.slice va L.length vc')).ownsRow w3.heap.size XaR 2 (.slice va L.length vc') L.length (xcells L):=rowS_kept HO.out (fun b hb _=>Below.heap_setCell _ _ _ _ (by intro e;have:=rowS_ge HO.out b hb;rw[show b=w2.heap.size from e] at this;omega))
    have hx:=xs_of_ownE ho (fun x hx=>HXL.out x (HML.out x hx))
    have ht:=H.out.below hbw
    have RA:=rattr_any B (wr.setCell ⟨w2.heap.size,6,none⟩ (.slice va L.length vc')) r (.slice (some ⟨gv,0,none⟩) R.length vc) R F k p (clearA s n.at_) (.slice va L.length vc') (HT.out.below hbw) hp (by rw[hxe];exact hx.1) (fun b hb=>by
     rw[hxe] at hb
     have h1:=hx.2 b hb;have h2:=lt_of_heap H.out.book;have h3:=HB2.out.size;omega) HG.out hk hc (Nat.le_trans hB hbw.size) ht
    unfold ptr at RA
    have RA:=hid RA
    have HBW:=hid hbw
    have HQ9:Hid ((wr.setCell ⟨w2.heap.size,6,none⟩ (.slice va L.length vc')).heap[w2.heap.size]? =some (.cells ((clearA s n.at_).cells (.slice va L.length vc')).toArray AtR)):=hid (by rw[setCell_heap _ _ _ _ _ _ hq0];rfl)
    clear hln hq0 hsb hbw hxe hsz ho hx ht
    go_wp2_with (first
     |(refine Sh.wpList_load_at (T:=AtR) (cs:=((clearA s n.at_).cells (.slice va L.length vc')).toArray) HQ9.out rfl AtR (.tmp 9) rfl rfl _ Tryz.underlying67 rfl (infoAtR _ _) ?_)
     |fail)
    refine RA.out.mono ?_
    intro ex w' hpost
    rw[HSET.out,←HWD.out,←HF2.out,←HC2.out] at hpost
    have hpp:=rpost_pre HBW.out hpost
    obtain⟨hex,hp2⟩:=hpp
    subst hex
    have HPP:=hid hp2
    clear hpost hp2
    go_wp2
    go_ret
    exact⟨rfl,HPP.out⟩
structure Bd (T:Tr) (k:Nat):Prop where
 b:Bnd T k
 clk:T.clock≤k
structure Pr (B:Nat) (w:World) (r:Nat) (T:Tr) (q:Nat) (v:Value) (R:List RN) (F:Tr):Prop where
 t:TreeAt B w r T
 f:RTree B w q v R F
 ap:∀ x∈blkT r T,x ∉ rblk q v R
structure Dbl (B:Nat) (w:World) (r:Nat) (T:Tr) (q:Nat) (v:Value) (R:List RN) (w':World) (T':Tr) (v':Value) (R':List RN) (F':Tr):Prop where
 p:Pr B w' r T' q v' R' F'
 turn:Turn (blkT r T++(q::ob v)) w w'
 own:∀ b∈ownL T'.L++xobL T'.L,b∈ownL T.L++xobL T.L∨w.heap.size≤b
 rb:∀ b∈rblk q v' R',b∈rblk q v R∨w.heap.size≤b
 rv:∀ b∈ob v',b∈ob v∨w.heap.size≤b
section
variable {B:Nat} {w w' w1:World} {r q k:Nat} {T T' T1:Tr} {v v' v1:Value} {R R' R1:List RN} {F F' F1:Tr}
theorem Pr.below (h:Pr B w r T q v R F) (hb:Below w.heap.size w w'):Pr B w' r T q v R F:=⟨h.t.below hb,h.f.below hb,h.ap⟩
theorem Pr.size (h:Pr B w r T q v R F):B≤w.heap.size:=Nat.le_trans h.f.base (Nat.le_of_lt (lt_of_heap h.f.book))
theorem rsub {q:Nat} {v:Value} {R:List RN}:∀ y∈q::ob v,y∈rblk q v R:=fun y hy=>by
 rw[rblk,List.mem_cons,List.mem_append]
 rcases List.mem_cons.1 hy with hy|hy
 · exact .inl hy
 · exact .inr (.inl hy)
theorem Pr.eff (h:Pr B w r T q v R F) (e:Eff B w r T w' T'):Pr B w' r T' q v R F:=by
 refine⟨e.tree,h.f.kept e.turn.size (fun x hx=>e.off (h.f.lt x hx) (fun hc=>h.ap _ hc hx)),fun x hx hy=>?_⟩
 rcases e.blk x hx with h1|h1
 · exact h.ap x h1 hy
 · have:=h.f.lt x hy;omega
theorem Pr.fol (h:Pr B w r T q v R F) (ht:RTree B w' q v' R' F') (hu:Turn (q::ob v) w w') (ho:∀ y∈rblk q v' R',y∈rblk q v R∨w.heap.size≤y):Pr B w' r T q v' R' F':=by
 refine⟨h.t.kept hu.size (fun b hb=>hu.block b (h.t.lt b hb) (fun hc=>h.ap b hb (rsub b hc))),ht,fun x hx hy=>?_⟩
 rcases ho x hy with h1|h1
 · exact h.ap x hx h1
 · have:=h.t.lt x hx;omega
theorem Dbl.refl (h:Pr B w r T q v R F):Dbl B w r T q v R w T v R F:=⟨h,Turn.refl _ _,fun _ h=> .inl h,fun _ h=> .inl h,fun _ h=> .inl h⟩
theorem Dbl.of_eff (h:Pr B w r T q v R F) (e:Eff B w r T w' T'):Dbl B w r T q v R w' T' v R F:=
 ⟨h.eff e,e.turn.mono (fun x hx=>List.mem_append_left _ (by rcases List.mem_cons.1 hx with rfl|hx;exact List.mem_cons_self ..;exact List.mem_cons_of_mem _ (List.mem_append_left _ hx))),e.own,fun _ h=> .inl h,fun _ h=> .inl h⟩
theorem Dbl.of_fol (h:Pr B w r T q v R F) (ht:RTree B w' q v' R' F') (hu:Turn (q::ob v) w w') (ho:∀ y∈rblk q v' R',y∈rblk q v R∨w.heap.size≤y) (hv:∀ y∈ob v',y∈ob v∨w.heap.size≤y):Dbl B w r T q v R w' T v' R' F':=
 ⟨h.fol ht hu ho,hu.mono (fun x hx=>List.mem_append_right _ hx),fun _ h=> .inl h,ho,hv⟩
theorem Dbl.trans (a:Dbl B w r T q v R w1 T1 v1 R1 F1) (b:Dbl B w1 r T1 q v1 R1 w' T' v' R' F'):Dbl B w r T q v R w' T' v' R' F':=by
 have hs:=a.turn.size
 refine⟨b.p,a.turn.trans b.turn (fun y hy=>?_),fun x hx=>?_,fun x hx=>?_,fun x hx=>?_⟩
 · rcases List.mem_append.1 hy with h|h
   · rcases List.mem_cons.1 h with rfl|h
     · exact .inl (by simp)
     · exact(a.own y h).imp (fun h2=>List.mem_append_left _ (List.mem_cons_of_mem _ h2)) id
   · rcases List.mem_cons.1 h with rfl|h
     · exact .inl (by simp)
     · exact(a.rv y h).imp (fun h2=>by simp[h2]) id
 · exact(b.own x hx).elim (a.own x) (fun h=> .inr (Nat.le_trans hs h))
 · exact(b.rb x hx).elim (a.rb x) (fun h=> .inr (Nat.le_trans hs h))
 · exact(b.rv x hx).elim (a.rv x) (fun h=> .inr (Nat.le_trans hs h))
end
def PCall (B:Nat) (w:World) (r:Nat) (T:Tr) (k:Nat) (x:Stp) (e:Ending) (w':World):Prop:=
 e= .returned (.int .i64 (runE x T))∧∃ T',Eff B w r T w' T'∧Bd T' (k+1)∧T'.bare=runN x T.bare
theorem RunP.call {B:Nat} {w w':World} {r k:Nat} {T:Tr} {x:Stp} {e:Ending} (h:TreeAt B w r T) (g:Bd T k) (hp:RunP B w r T x e w'):PCall B w r T k x e w':=by
 obtain⟨he,T',htr,htu,how,hch,hri⟩:=hp
 have hF:=hri.facts h
 have hc:T'.clock≤k+1:=by
  cases hx:chgd x T with
  |true=>rw [hF.yes hx];have:=g.clk;omega
  |false=>rw [(hF.no hx).2];have:=g.clk;omega
 obtain⟨h1,T2,h2,h3,h4⟩:=run_eff h g.b ⟨he,T',htr,htu,how,hch,hri⟩
 refine⟨he,T',⟨htr,htu,how⟩,?_,bare_run hri h htr⟩
 have hG:=ChT.good h hch g.b.good
 refine⟨⟨⟨hG.deep,hG.names,hG.att,hG.data,hG.ino,hG.inos,hG.tick,hG.clock,hG.most,hG.len⟩,?_⟩,hc⟩
 rw[hF.reads];have:=g.b.reads;split <;> omega
theorem RunP.of_call {B:Nat} {w w':World} {r:Nat} {T T':Tr} {x:Stp} {c:Int} (he:runE x T=c) (hc:CallT B w r T w' T') (hri:RunIs x T T'):RunP B w r T x (.returned (.int .i64 c)) w':=by
 refine⟨by rw[he],T',hc.tree,hc.turn,hc.own,?_,hri⟩
 have h2:=hc.ch.reads
 have h3:({T' with reads:=T.reads}:Tr)=T':=by rw[←h2]
 rw[h3];exact hc.ch
theorem RunP.pre {B:Nat} {w w1 w':World} {r:Nat} {T:Tr} {x:Stp} {e:Ending} (hb:Below w.heap.size w w1) (h:RunP B w1 r T x e w'):RunP B w r T x e w':=by
 obtain⟨he,T',htr,htu,how,hch,hri⟩:=h
 exact⟨he,T',htr,(Turn.of_below hb).trans htu (fun y hy=> .inl hy),fun b hx=>(how b hx).imp id (fun h=>Nat.le_trans hb.size h),hch,hri⟩
section
variable (B:Nat) (w:World) (r:Nat) (T:Tr) (k:Nat) (who:Int) (path more:List UInt8) (A:XA) (u v1:Value)
theorem pcall0 (hp:path.length≤140737488351232) (hv:XsAt w v1 A.xs) (hr:∀ b∈xob A.xs v1,b≠r) (g:Bd T k) (hk:k≤1000) (hB:B≤w.heap.size) (h:TreeAt B w r T):
 Calls Tryz.prog 23 #[ptr r,.string ⟨path.toArray⟩,.agg (A.cells v1).toArray] w (PCall B w r T k ⟨(0:Int),who,path,more,A,u⟩):=by
 have hmost:T.most < 18446744073709551615:=by have:=g.b.good.most;omega
 refine(folder_any B w r T path A v1 (by omega) hv hr hmost h).mono ?_
 rintro ex w3 ⟨W2,hbW,htW,hpost⟩
 obtain⟨rfl,T',hct,hno,hyes⟩:=hpost.call h hbW (.inl (by simp)) (splitL_16 path)
 refine RunP.call h g (RunP.of_call (c:=addE path [] (asFold A) T) rfl hct ?_)
 show if addE path [] (asFold A) T≠0 then T'=T else AddIs path [] (asFold A) T T'
 split
 · next h=>exact hno h
 · next h=>exact hyes (Classical.not_not.1 h)
theorem pcall1 (hp:path.length≤140737488351232) (hm:more.length≤140737488351232) (hv:XsAt w v1 A.xs) (hr:∀ b∈xob A.xs v1,b≠r) (g:Bd T k) (hk:k≤1000) (hB:B≤w.heap.size) (h:TreeAt B w r T):
 Calls Tryz.prog 24 #[ptr r,.string ⟨path.toArray⟩,.string ⟨more.toArray⟩,.agg (A.cells v1).toArray] w (PCall B w r T k ⟨(1:Int),who,path,more,A,u⟩):=by
 have hmost:T.most < 18446744073709551615:=by have:=g.b.good.most;omega
 refine(file_any B w r T path more A v1 (by omega) (by omega) hv hr hmost h).mono ?_
 rintro ex w3 ⟨W2,hbW,htW,hpost⟩
 obtain⟨rfl,T',hct,hno,hyes⟩:=hpost.call h hbW (by by_cases hb:more.length≤1048576;exact .inl hb;exact .inr (addE_big (by omega))) (splitL_16 path)
 refine RunP.call h g (RunP.of_call (c:=addE path more (asFile A) T) rfl hct ?_)
 show if addE path more (asFile A) T≠0 then T'=T else AddIs path more (asFile A) T T'
 split
 · next h=>exact hno h
 · next h=>exact hyes (Classical.not_not.1 h)
theorem pcall2 (hp:path.length≤140737488351232) (hm:more.length≤140737488351232) (hv:XsAt w v1 A.xs) (hr:∀ b∈xob A.xs v1,b≠r) (g:Bd T k) (hk:k≤1000) (hB:B≤w.heap.size) (h:TreeAt B w r T):
 Calls Tryz.prog 47 #[ptr r,.string ⟨path.toArray⟩,.string ⟨more.toArray⟩,.agg (A.cells v1).toArray] w (PCall B w r T k ⟨(2:Int),who,path,more,A,u⟩):=by
 have hmost:T.most < 18446744073709551615:=by have:=g.b.good.most;omega
 refine(link_any B w r T path more A v1 (by omega) (by omega) hv hr hmost h).mono ?_
 rintro ex w3 ⟨W2,hbW,htW,hpost⟩
 obtain⟨rfl,T',hct,hno,hyes⟩:=hpost.call h hbW (.inl (by simp)) (splitL_16 path)
 refine RunP.call h g (RunP.of_call (c:=addE path [] (asLink more A) T) rfl hct ?_)
 show if addE path [] (asLink more A) T≠0 then T'=T else AddIs path [] (asLink more A) T T'
 split
 · next h=>exact hno h
 · next h=>exact hyes (Classical.not_not.1 h)
theorem pcall3 (hp:path.length≤140737488351232) (hm:more.length≤140737488351232) (g:Bd T k) (hk:k≤1000) (hB:B≤w.heap.size) (h:TreeAt B w r T):
 Calls Tryz.prog 25 #[ptr r,.string ⟨path.toArray⟩,.string ⟨more.toArray⟩] w (PCall B w r T k ⟨(3:Int),who,path,more,A,u⟩):=by
 have hmost:T.most < 18446744073709551615:=by have:=g.b.good.most;omega
 refine(write_any B w r T path more (by omega) (by omega) h).mono ?_
 rintro ex w3 ⟨rfl,ht1,hu1⟩
 refine RunP.call h g (RunP.of_call (c:=writeE path more T) rfl (write_call h g.b.good ht1 hu1) ?_)
 show if writeE path more T≠0 then writeT path more T=T else writeT path more T=writeT path more T
 split
 · next h=>exact if_neg h
 · rfl
theorem pcall4 (hp:path.length≤140737488351232) (hv:XsAt w v1 A.xs) (g:Bd T k) (hk:k≤1000) (hB:B≤w.heap.size) (h:TreeAt B w r T):
 Calls Tryz.prog 28 #[ptr r,.string ⟨path.toArray⟩,.agg (A.cells v1).toArray] w (PCall B w r T k ⟨(4:Int),who,path,more,A,u⟩):=by
 have hmost:T.most < 18446744073709551615:=by have:=g.b.good.most;omega
 refine(attr_any B w r T path (by omega) A v1 hv g.b.good.data hB h).mono ?_
 rintro ex w3 ⟨rfl,T',hct,hno,hyes⟩
 refine RunP.call h g (RunP.of_call (c:=attrE path A T) rfl hct ?_)
 show if attrE path A T≠0 then T'=T else SetIs path (fun n=>asOf A n) T T'
 split
 · next h=>exact hno h
 · next h=>exact hyes (Classical.not_not.1 h)
theorem pcall5 (hp:path.length≤140737488351232) (hm:more.length≤140737488351232) (ht:A.target.length≤140737488351232) (g:Bd T k) (hk:k≤1000) (hB:B≤w.heap.size) (h:TreeAt B w r T):
 Calls Tryz.prog 48 #[ptr r,.string ⟨path.toArray⟩,.string ⟨A.target.toArray⟩,.string ⟨more.toArray⟩] w (PCall B w r T k ⟨(5:Int),who,path,more,A,u⟩):=by
 have hmost:T.most < 18446744073709551615:=by have:=g.b.good.most;omega
 refine(xattr_any B w r T path A.target more (by omega) (by omega) (by omega) g.b.good.data (fun e he=>(chkA_parts (g.b.good.att e he)).2.2.1) hB h).mono ?_
 rintro ex w3 ⟨rfl,T',hct,hno,hyes⟩
 refine RunP.call h g (RunP.of_call (c:=xattrE path A.target more T) rfl hct ?_)
 show if xattrE path A.target more T≠0 then T'=T else SetIs path (fun n=>xattrA A.target more n.at_) T T'
 split
 · next h=>exact hno h
 · next h=>exact hyes (Classical.not_not.1 h)
theorem pcall6 (hp:path.length≤140737488351232) (ht:A.target.length≤140737488351232) (g:Bd T k) (hk:k≤1000) (hB:B≤w.heap.size) (h:TreeAt B w r T):
 Calls Tryz.prog 50 #[ptr r,.string ⟨path.toArray⟩,.string ⟨A.target.toArray⟩] w (PCall B w r T k ⟨(6:Int),who,path,more,A,u⟩):=by
 have hmost:T.most < 18446744073709551615:=by have:=g.b.good.most;omega
 refine(clear_any B w r T path A.target (by omega) (by omega) g.b.good.data (fun e he=>(chkA_parts (g.b.good.att e he)).2.2.1) hB h).mono ?_
 rintro ex w3 ⟨rfl,T',hct,hno,hyes⟩
 refine RunP.call h g (RunP.of_call (c:=clearE path A.target T) rfl hct ?_)
 show if clearE path A.target T≠0 then T'=T else SetIs path (fun n=>clearA A.target n.at_) T T'
 split
 · next h=>exact hno h
 · next h=>obtain ⟨n,xv,h1,_,h2⟩:=hyes (Classical.not_not.1 h);exact⟨n,xv,h1,h2⟩
theorem pcall7 (hp:path.length≤140737488351232) (hm:more.length≤140737488351232) (g:Bd T k) (hk:k≤1000) (hB:B≤w.heap.size) (h:TreeAt B w r T):
 Calls Tryz.prog 26 #[ptr r,.string ⟨path.toArray⟩,.string ⟨more.toArray⟩] w (PCall B w r T k ⟨(7:Int),who,path,more,A,u⟩):=by
 have hmost:T.most < 18446744073709551615:=by have:=g.b.good.most;omega
 refine(move_any B w r T path more (by omega) (by omega) g.b.good.deep (by have:=g.b.good.len;omega) h).mono ?_
 rintro ex w3 ⟨rfl,hct⟩
 refine RunP.call h g (RunP.of_call (c:=moveE path more T) rfl hct ?_)
 show if moveE path more T≠0 then moveTr path more T=T else moveTr path more T=moveTr path more T
 split
 · next h=>exact moveTr_no h
 · rfl
theorem pcall8 (hp:path.length≤140737488351232) (g:Bd T k) (hk:k≤1000) (hB:B≤w.heap.size) (h:TreeAt B w r T):
 Calls Tryz.prog 27 #[ptr r,.string ⟨path.toArray⟩] w (PCall B w r T k ⟨(8:Int),who,path,more,A,u⟩):=by
 have hmost:T.most < 18446744073709551615:=by have:=g.b.good.most;omega
 refine(drop_any B w r T path (by omega) h).mono ?_
 rintro ex w3 ⟨rfl,hct⟩
 refine RunP.call h g (RunP.of_call (c:=dropE path T) rfl hct ?_)
 show if dropE path T≠0 then dropTr path T=T else dropTr path T=dropTr path T
 split
 · next h=>exact dropTr_no h
 · rfl
end
theorem fol_if2 {c:Int} {F G:Tr}:(if c=0 then G else F)=(if c≠0 then F else G):=by
 by_cases h:c=0
 · rw[if_pos h,if_neg (fun hn=>hn h)]
 · rw[if_neg h,if_pos h]
def QCall (B:Nat) (w:World) (q:Nat) (v:Value) (R:List RN) (F:Tr) (x:Stp) (e:Ending) (w':World):Prop:=
 RPost B w q v R (runN x F) (runE x F) e w'
theorem post_if {B:Nat} {w w':World} {q:Nat} {v:Value} {R:List RN} {F G H:Tr} {c d:Int} {e:Ending} (h:RPost B w q v R (if c=0 then G else F) c e w') (hc:d=c) (hH:H=if c≠0 then F else G):RPost B w q v R H d e w':=by
 rw[hc,hH,←fol_if2];exact h
section
variable (B:Nat) (w:World) (q:Nat) (v:Value) (R:List RN) (F:Tr) (k:Nat) (who:Int) (path more:List UInt8) (A:XA) (u v1:Value)
theorem qcall0 (hp:path.length≤140737488351232) (hv:XsAt w v1 A.xs) (hr:∀ b∈xob A.xs v1,b≠q) (hT:Tabs w) (g:GoodF k F) (hk:k≤1000) (hc:F.clock≤1000000) (hB:B≤w.heap.size) (h:RTree B w q v R F):
 Calls Tryz.prog 29 #[ptr q,.string ⟨path.toArray⟩,.string ⟨#[]⟩,.agg (XA.cells (asFold A) v1).toArray] w (QCall B w q v R F ⟨(0:Int),who,path,more,A,u⟩):=
 (rmake_any B w q v R F k path [] (asFold A) v1 hT (by omega) (by simp) hv hr g hk hc hB h).mono (fun _ _ hp=>post_if (c:=addE path [] (asFold A) F) hp rfl rfl)
theorem qcall1 (hp:path.length≤140737488351232) (hm:more.length≤140737488351232) (hv:XsAt w v1 A.xs) (hr:∀ b∈xob A.xs v1,b≠q) (hT:Tabs w) (g:GoodF k F) (hk:k≤1000) (hc:F.clock≤1000000) (hB:B≤w.heap.size) (h:RTree B w q v R F):
 Calls Tryz.prog 29 #[ptr q,.string ⟨path.toArray⟩,.string ⟨more.toArray⟩,.agg (XA.cells (asFile A) v1).toArray] w (QCall B w q v R F ⟨(1:Int),who,path,more,A,u⟩):=
 (rmake_any B w q v R F k path more (asFile A) v1 hT (by omega) (by omega) hv hr g hk hc hB h).mono (fun _ _ hp=>post_if (c:=addE path more (asFile A) F) hp rfl rfl)
theorem qcall2 (hp:path.length≤140737488351232) (hm:more.length≤140737488351232) (hv:XsAt w v1 A.xs) (hr:∀ b∈xob A.xs v1,b≠q) (hT:Tabs w) (g:GoodF k F) (hk:k≤1000) (hc:F.clock≤1000000) (hB:B≤w.heap.size) (h:RTree B w q v R F):
 Calls Tryz.prog 29 #[ptr q,.string ⟨path.toArray⟩,.string ⟨#[]⟩,.agg (XA.cells (asLink more A) v1).toArray] w (QCall B w q v R F ⟨(2:Int),who,path,more,A,u⟩):=
 (rmake_any B w q v R F k path [] (asLink more A) v1 hT (by omega) (by simp) hv hr g hk hc hB h).mono (fun _ _ hp=>post_if (c:=addE path [] (asLink more A) F) hp rfl rfl)
theorem qcall3 (hp:path.length≤140737488351232) (hm:more.length≤140737488351232) (hT:Tabs w) (g:GoodF k F) (hk:k≤1000) (hc:F.clock≤1000000) (hB:B≤w.heap.size) (h:RTree B w q v R F):
 Calls Tryz.prog 30 #[ptr q,.string ⟨path.toArray⟩,.string ⟨more.toArray⟩] w (QCall B w q v R F ⟨(3:Int),who,path,more,A,u⟩):=
 (rwrite_any B w q v R F k path more hT (by omega) (by omega) g hk hc h).mono (fun _ _ hp=>post_if (c:=writeE path more F) hp rfl rfl)
theorem qcall4 (hp:path.length≤140737488351232) (hv:XsAt w v1 A.xs) (hr:∀ b∈xob A.xs v1,b≠q) (hT:Tabs w) (g:GoodF k F) (hk:k≤1000) (hc:F.clock≤1000000) (hB:B≤w.heap.size) (h:RTree B w q v R F):
 Calls Tryz.prog 33 #[ptr q,.string ⟨path.toArray⟩,.agg (A.cells v1).toArray] w (QCall B w q v R F ⟨(4:Int),who,path,more,A,u⟩):=
 (rattr_any B w q v R F k path A v1 hT (by omega) hv hr g hk hc hB h).mono (fun _ _ hp=>post_if (c:=attrE path A F) hp rfl rfl)
theorem qcall5 (hp:path.length≤140737488351232) (hm:more.length≤140737488351232) (ht:A.target.length≤140737488351232) (hT:Tabs w) (g:GoodF k F) (hk:k≤1000) (hc:F.clock≤1000000) (hB:B≤w.heap.size) (h:RTree B w q v R F):
 Calls Tryz.prog 49 #[ptr q,.string ⟨path.toArray⟩,.string ⟨A.target.toArray⟩,.string ⟨more.toArray⟩] w (QCall B w q v R F ⟨(5:Int),who,path,more,A,u⟩):=
 (rxattr_any B w q v R F k path A.target more hT (by omega) (by unfold maxLen;omega) (by unfold maxLen;omega) g hk hc hB h).mono (fun _ _ hp=>post_if (c:=xattrE path A.target more F) hp rfl rfl)
theorem qcall6 (hp:path.length≤140737488351232) (ht:A.target.length≤140737488351232) (hT:Tabs w) (g:GoodF k F) (hk:k≤1000) (hc:F.clock≤1000000) (hB:B≤w.heap.size) (h:RTree B w q v R F):
 Calls Tryz.prog 51 #[ptr q,.string ⟨path.toArray⟩,.string ⟨A.target.toArray⟩] w (QCall B w q v R F ⟨(6:Int),who,path,more,A,u⟩):=
 (rclear_any B w q v R F k path A.target hT (by omega) (by unfold maxLen;omega) g hk hc hB h).mono (fun _ _ hp=>post_if (c:=clearE path A.target F) hp rfl rfl)
theorem qcall7 (hp:path.length≤140737488351232) (hm:more.length≤140737488351232) (hms:moveE path more F=0→SrtT (moveN path more F).L) (hT:Tabs w) (g:GoodF k F) (hk:k≤1000) (hc:F.clock≤1000000) (hB:B≤w.heap.size) (h:RTree B w q v R F):
 Calls Tryz.prog 31 #[ptr q,.string ⟨path.toArray⟩,.string ⟨more.toArray⟩] w (QCall B w q v R F ⟨(7:Int),who,path,more,A,u⟩):=
 (rmove_any B w q v R F k path more hT (by omega) (by omega) g hk hc hB hms h).mono (fun _ _ hp=>post_if (c:=moveE path more F) hp rfl rfl)
theorem qcall8 (hp:path.length≤140737488351232) (hT:Tabs w) (g:GoodF k F) (hk:k≤1000) (hc:F.clock≤1000000) (hB:B≤w.heap.size) (h:RTree B w q v R F):
 Calls Tryz.prog 32 #[ptr q,.string ⟨path.toArray⟩] w (QCall B w q v R F ⟨(8:Int),who,path,more,A,u⟩):=
 (rdrop_any B w q v R F k path hT (by omega) g hk hc hB h).mono (fun _ _ hp=>post_if (c:=dropE path F) hp rfl rfl)
end
def DoQ (B k:Nat) (w0 w:World) (r:Nat) (T:Tr) (q:Nat) (v:Value) (R:List RN) (bb:Nat) (w':World):Prop:=
 ∃ T' v' R',Dbl B w0 r T q v R w' T' v' R' T'.bare∧Bd T' (k+1)∧w.heap.size≤w'.heap.size∧(∀ b,w0.heap.size≤b→b < w.heap.size→b≠bb→w'.heap[b]? =w.heap[b]?)∧∀ b∈blkT r T'++rblk q v' R',b < w0.heap.size∨w.heap.size≤b
section
variable {B:Nat} {w0 w w2 w5 w6:World} {r q k bb:Nat} {T T':Tr} {v v':Value} {R R':List RN} {F F':Tr} {x:Stp} {e:Ending}
theorem Dbl.pre (hb:Below w0.heap.size w0 w2) (a:Dbl B w2 r T q v R w6 T' v' R' F'):Dbl B w0 r T q v R w6 T' v' R' F':=
 ⟨a.p,(Turn.of_below hb).trans a.turn (fun y hy=> .inl hy),fun b hx=>(a.own b hx).imp id (fun h=>Nat.le_trans hb.size h),fun b hx=>(a.rb b hx).imp id (fun h=>Nat.le_trans hb.size h),fun b hx=>(a.rv b hx).imp id (fun h=>Nat.le_trans hb.size h)⟩
theorem Pr.lt (h:Pr B w0 r T q v R F):∀ b∈blkT r T++(q::ob v),b < w0.heap.size:=by
 intro b hb
 rcases List.mem_append.1 hb with hb|hb
 · exact h.t.lt b hb
 · exact h.f.lt b (rsub b hb)
theorem Pr.far (h:Pr B w0 r T q v R F) {b:Nat} (hb:w0.heap.size≤b):b ∉ blkT r T++(q::ob v):=fun hc=>by have:=h.lt b hc;omega
theorem eff_far (h:Pr B w0 r T q v R F) (he:Eff B w2 r T w5 T') {b:Nat} (hb:w0.heap.size≤b) (hl:b < w2.heap.size):w5.heap[b]? =w2.heap[b]? :=
 he.off hl (fun hc=>h.far hb (List.mem_append_left _ hc))
theorem doq_mk (h:Pr B w0 r T q v R T.bare) (hb02:Below w0.heap.size w0 w2) (h2:∀ b,w0.heap.size≤b→b < w.heap.size→b≠bb→w2.heap[b]? =w.heap[b]?) (hs:w.heap.size≤w2.heap.size) (he:Eff B w2 r T w5 T') (hg:Bd T' (k+1)) (hb:T'.bare=runN x T.bare) (hq:QCall B w5 q v R T.bare x e w6):
 DoQ B k w0 w r T q v R bb w6:=by
 obtain⟨_,v',R',ht,hu,ho,hv⟩:=hq
 rw[←hb] at ht
 have a1:=Dbl.of_eff (h.below hb02) he
 have a2:=a1.trans (Dbl.of_fol a1.p ht hu ho hv)
 refine⟨T',v',R',a2.pre hb02,hg,Nat.le_trans hs a2.turn.size,fun b hb1 hb2 hb3=>?_,fun b hx=>?_⟩
 · rw[a2.turn.block b (Nat.lt_of_lt_of_le hb2 hs) (h.far hb1)]
   exact h2 b hb1 hb2 hb3
 · rcases List.mem_append.1 hx with hx|hx
   · rcases List.mem_cons.1 hx with rfl|hx
     · exact .inl (h.t.lt _ (by simp))
     · exact(a2.own b hx).imp (fun h3=>h.t.lt b (List.mem_cons_of_mem _ h3)) (Nat.le_trans hs)
   · exact(a2.rb b hx).imp (fun h3=>h.f.lt b h3) (Nat.le_trans hs)
theorem doq_same (h:Pr B w0 r T q v R T.bare) (g:Bd T k) (hb:Below w0.heap.size w0 w):DoQ B k w0 w r T q v R bb w:=
 ⟨T,v,R,(Dbl.refl (h.below hb)).pre hb,⟨⟨⟨g.b.good.deep,g.b.good.names,g.b.good.att,g.b.good.data,g.b.good.ino,g.b.good.inos,g.b.good.tick,g.b.good.clock,by have:=g.b.good.most;omega,by have:=g.b.good.len;omega⟩,by have:=g.b.reads;omega⟩,by have:=g.clk;omega⟩,Nat.le_refl _,fun _ _ _ _=>rfl,fun b hx=> .inl ((List.mem_append.1 hx).elim (h.t.lt b) (h.f.lt b))⟩
theorem Dbl.mar {g:Nat} (a:Dbl B w0 r T q v R w6 T' v' R' F') (ht:Turn [g] w6 w5) (hg:w0.heap.size≤g) (hf:g ∉ blkT r T'++rblk q v' R'):Dbl B w0 r T q v R w5 T' v' R' F':=by
 have hk:∀ b∈blkT r T'++rblk q v' R',b < w6.heap.size→w5.heap[b]? =w6.heap[b]? :=fun b hb hl=>ht.block b hl (by
  rw[List.mem_singleton];rintro rfl;exact hf hb)
 refine⟨⟨a.p.t.kept ht.size (fun b hb=>hk b (List.mem_append_left _ hb) (a.p.t.lt b hb)),a.p.f.kept ht.size (fun b hb=>hk b (List.mem_append_right _ hb) (a.p.f.lt b hb)),a.p.ap⟩,a.turn.trans ht (fun y hy=> .inr (by rw[List.mem_singleton] at hy;omega)),a.own,a.rb,a.rv⟩
theorem srt_moved {n:Nat} {who:Int} {path more:List UInt8} {A:XA} {u:Value} (h:TreeAt B w5 r T') (g:Bd T' n) (hb:T'.bare=runN ⟨(7:Int),who,path,more,A,u⟩ T.bare):moveE path more T.bare=0→SrtT (moveN path more T.bare).L:=by
 intro h0
 have h1:=(goodF_of h g.b.good).srt
 have h2:runN ⟨(7:Int),who,path,more,A,u⟩ T.bare=moveN path more T.bare:=by
  show(if moveE path more T.bare≠0 then T.bare else moveN path more T.bare)=_
  rw[if_neg (fun h=>h h0)]
 rw[hb,h2] at h1;exact h1
end
def findB2 (n:Nat):Code→Option Code
 | .seq a b=>match findB2 n a with
   |some c=>some c
   |none=>findB2 n b
 | .block k c=>if k==n then some (.block k c) else findB2 n c
 | .cond _ a b=>match findB2 n a with
   |some c=>some c
   |none=>findB2 n b
 | .loop c=>findB2 n c
 |_=>none
noncomputable def doB (n:Nat):Code:=(Tryz.f20.body.bind (findB2 n)).getD .skip
def attrsA (p:List UInt8) (L:List TE):XA:=match findN p L with|some e=>e.at_|none=>zeroA
theorem builtAtR:Tryz.prog.built 67 []=some (zeroA.cells (.slice none 0 0)).toArray:=by kernel_rfl
theorem fine_of_chkR {A:XA} (h:chkA A=true):A.xs.length≤16:=by
 rw[chkA] at h
 simp only[Bool.and_eq_true,decide_eq_true_eq] at h
 exact h.2.2.2.2.1
def RAttrsP (w:World) (p:List UInt8) (L:List TE) (e:Ending) (w':World):Prop:=
 ∃ v',e= .returned (.tuple #[.agg ((attrsA p L).cells v').toArray,.int .i64 (findE p L)])∧XsAt w' v' (attrsA p L).xs∧(∀ b∈xob (attrsA p L).xs v',w.heap.size≤b)∧Below w.heap.size w w'
theorem rattrs_any (B:Nat) (w:World) (r:Nat) (v:Value) (R:List RN) (F:Tr) (k:Nat) (p:List UInt8) (hT:Tabs w) (hp:p.length≤4611686018427387904) (hg:GoodF k F) (hk:k≤1000) (h:RTree B w r v R F):
 Calls Tryz.prog 56 #[ptr r,.string ⟨p.toArray⟩] w (RAttrsP w p F.L):=by
 obtain⟨W,hW⟩:∃ W,W=w.alloc (.cells (zeroA.cells (.slice none 0 0)).toArray AtR):=⟨_,rfl⟩
 have hb0:Below w.heap.size w W:=by rw[hW];exact(Below.refl _ _).alloc (Nat.le_refl _) _
 have hq0:W.heap[w.heap.size]? =some (.cells (zeroA.cells (.slice none 0 0)).toArray AtR):=by rw[hW];exact(MapKept.heap_alloc w _).1
 have hlen:R.length≤1000000:=by rw[h.len];have:=hg.len;omega
 have FI:=rfind_any B W r v R F p (hT.below hb0) hp hg.srt hlen (h.below hb0)
 have H:=hid (h.below hb0);have HB0:=hid hb0;have HQ0:=hid hq0;have HW:=hid hW;have HG:=hid hg
 obtain⟨va,vc,rfl⟩:=rowS_slice h.row
 clear h hb0 hq0 hW hT hg
 unfold ptr at*
 by_cases hf:findE p F.L=0
 case neg=>
  have hnone:findN p F.L=none:=by
   rw[findE] at hf;rw[findN]
   split
   · next h0=>
     rw[if_pos h0] at hf
     cases hgt:getT (splitL p) F.L with
     |none=>rfl
     |some e=>rw [hgt] at hf;exact absurd rfl hf
   · rfl
  have HAA:Hid (attrsA p F.L=zeroA):=hid (by rw[attrsA,hnone])
  rw[rfind_no hf] at FI
  have FI:=hid FI
  obtain⟨c,hc⟩:∃ c,c=findE p F.L:=⟨_,rfl⟩
  have HCF:=hid hc
  rw[←hc] at FI hf
  have hb:(c==0)=false:=by rw[beq_eq_false_iff_ne];exact hf
  have hb2:(c !=0)=true:=by rw[bne,hb];rfl
  have ON:=hid (atOne zeroA (v:= .slice none 0 0) rfl)
  clear hf hnone hc
  go_enter Tryz.func56,Tryz.ntmps56
  go_wp2_with fail
  change Calls _ _ _ (w.alloc (.cells (zeroA.cells (.slice none 0 0)).toArray AtR)) _
  rw[←HW.out]
  refine FI.out.mono ?_
  rintro ex w1 ⟨rfl,hb1⟩
  have HB:Hid (Below w.heap.size w w1):=hid (HB0.out.trans (hb1.mono HB0.out.size))
  have HA1:=hid ((hb1.block _ (lt_of_heap HQ0.out)).trans HQ0.out)
  clear FI hb1 HB0 HQ0 HW
  go_wp2_with (first
   |(refine Sh.wpList_build_is rfl 67 _ rfl (zeroA.cells (.slice none 0 0)).toArray builtAtR ?_)
   |(refine Sh.wpList_store_at HA1.out rfl 67 (.tmp 4) (.tmp 16) rfl (zeroA.cells (.slice none 0 0)).toArray rfl rfl (infoAtR _ _) rfl ON.out ?_
     intro w3 hq3 ht3 hs3
     have HQ3:=hid hq3;have HT3:=hid ht3
     clear hq3 ht3 hs3))
  have hld:=run_loadVar_row (P:=Tryz.prog) w3 w.heap.size _ 67 (zeroA.cells (.slice none 0 0)).toArray _ _ HQ3.out Tryz.underlying67 rfl (infoAtR _ _)
  refine bodyPost_ret (v:= .tuple #[.agg (zeroA.cells (.slice none 0 0)).toArray,.int .i64 c]) ?_ rfl ?_
  · rw[results_cell_tmp (fn:=Tryz.f56) rfl]
    show((asAddr (.pointer (some ⟨w.heap.size,0,none⟩))).run Tryz.prog _).andThen _=_
    simp only[asAddr,Sem.run_pure,Result.andThen_ok,hld]
    rfl
  · refine⟨.slice none 0 0,by rw[HAA.out,HCF.out],?_,?_,HB.out.trans (HT3.out.below (by simp) HB.out.size)⟩
    · rw[HAA.out];exact⟨none,0,rfl,Nat.zero_le _,fun x hx=>(by cases hx),fun hne=>absurd rfl hne⟩
    · rw[HAA.out];intro b hb;simp[xob,zeroA] at hb
 obtain⟨i,e,hfi,hi,hen,hg',hs0⟩:=rfind_yes HG.out.srt hf
 obtain⟨n,hn,hne⟩:=H.out.get hi
 have hil:i < R.length:=(List.getElem?_eq_some_iff.1 hn).1
 have hilt:(i:Int) < (R.length:Int):=by omega
 have HAA:Hid (attrsA p F.L=n.at_):=hid (by rw[attrsA,findN,if_pos hs0,hg',←hne];rfl)
 have HCF:=hid hf
 have HX16:Hid (n.at_.xs.length≤1000):=hid (by have:n.at_.xs.length≤16:=(fine_of_chkR (HG.out.att n.te (List.mem_of_getElem? (H.out.at_ hn))));omega)
 rw[hfi,hf] at FI
 have FI:=hid FI
 have HN:=hid hn
 obtain⟨gv,cap,hv,hgv⟩:=H.out.form (by omega)
 injection hv with e1 e2 e3
 subst e1 e3
 have KS:Hid (∀ w2,Below W.heap.size W w2→w2.cell? ⟨r,0,none⟩=some (.slice (some ⟨gv,0,none⟩) R.length vc)∧w2.rangeAt gv (i*11+1) (n.at_.cells n.xv)∧XsAt w2 n.xv n.at_.xs):=hid (fun w2 hb=>by
  have HX:=H.out.below hb
  refine⟨cell_of_heap HX.book,fun t u hu=>?_,(HX.node n (List.mem_of_getElem? HN.out)).2⟩
  have:=HX.ent HN.out (1+t) u (by
   rw[RN.cells,Nat.add_comm 1 t,List.getElem?_cons_succ,List.getElem?_append_left (List.getElem?_eq_some_iff.1 hu).1];exact hu)
  rw[Nat.add_assoc];exact this)
 clear hf hfi hi hen hg' hs0 hn hne e2
 go_enter Tryz.func56,Tryz.ntmps56
 go_wp2_with fail
 change Calls _ _ _ (w.alloc (.cells (zeroA.cells (.slice none 0 0)).toArray AtR)) _
 rw[←HW.out]
 refine FI.out.mono ?_
 rintro ex w2 ⟨rfl,hb2⟩
 have HB2:=hid hb2
 have HA2:=hid ((hb2.block _ (lt_of_heap HQ0.out)).trans HQ0.out)
 obtain⟨c0,hrg,hxs⟩:=KS.out w2 hb2
 have HRG:=hid hrg;have HXS:=hid hxs
 have RO:=hid (rown_any w2 n.at_ n.xv hxs HX16.out)
 clear hb2 FI hrg hxs HQ0 HW
 go_wp2_with (first
  |(refine wpList_load_mid rfl _ _ rfl gv (i*11+1) rfl (n.at_.cells n.xv) _ HRG.out Tryz.underlying67 rfl (infoAtR n.at_ n.xv) ?_)
  |fail)
 refine RO.out.mono ?_
 rintro ex w3 ⟨v',rfl,hx3,hf3,hb3⟩
 have HA3:=hid ((hb3.block _ (lt_of_heap HA2.out)).trans HA2.out)
 have ON:=hid (atOne n.at_ (xs_one hx3))
 have HX3:=hid hx3;have HF3:=hid hf3
 have HB3:Hid (Below w.heap.size w w3):=hid ((HB0.out.trans (HB2.out.mono HB0.out.size)).trans (hb3.mono (Nat.le_trans HB0.out.size HB2.out.size)))
 have HSZ:Hid (w.heap.size < w2.heap.size):=hid (lt_of_heap HA2.out)
 clear hx3 hf3 hb3 RO c0 HA2
 go_wp2_with (first
  |(refine Sh.wpList_store_at HA3.out rfl 67 (.tmp 4) (.tmp 26) rfl (n.at_.cells v').toArray rfl rfl (infoAtR _ _) rfl ON.out ?_
    intro w4 hq4 ht4 hs4
    have HQ4:=hid hq4;have HT4:=hid ht4
    clear hq4 ht4 hs4)
  |fail)
 have hld:=run_loadVar_row (P:=Tryz.prog) w4 w.heap.size _ 67 (n.at_.cells v').toArray _ _ HQ4.out Tryz.underlying67 rfl (infoAtR _ _)
 refine bodyPost_ret (v:= .tuple #[.agg (n.at_.cells v').toArray,.int .i64 0]) ?_ rfl ?_
 · rw[results_cell_tmp (fn:=Tryz.f56) rfl]
   show((asAddr (.pointer (some ⟨w.heap.size,0,none⟩))).run Tryz.prog _).andThen _=_
   simp only[asAddr,Sem.run_pure,Result.andThen_ok,hld]
   rfl
 · refine⟨v',by rw[HAA.out,HCF.out],?_,?_,HB3.out.trans (HT4.out.below (by simp) HB3.out.size)⟩
   · rw[HAA.out]
     refine HX3.out.kept HT4.out.size (fun b hb=>HT4.out.block b (HX3.out.lt b hb) ?_)
     have:=HF3.out b hb;have:=HSZ.out;simp;omega
   · rw[HAA.out];intro b hb;have:=HF3.out b hb;have:=HSZ.out;omega
end Go.Proofs.YtnmejonfdfdegaaGreatDoor.Sr
