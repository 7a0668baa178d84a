import Derived.Test.YtnmejonfdfdegaaGreatDoorZPRtAttr
import Derived.Test.YtnmejonfdfdegaaGreatDoorZPMvR8
import Derived.WalkLawsBesides
set_option linter.unusedSimpArgs false
set_option linter.unusedVariables false
set_option maxHeartbeats 16000000
set_option maxRecDepth 100000
namespace Go.Proofs.YtnmejonfdfdegaaGreatDoor.Sr
open Go.RowKit Go.Maps Go.WideMaps Rf Go.Proofs.YtnmejonfdfdegaaGreatDoor.Nm St
open Lib (hid)
abbrev XaR:TypeId:=147
theorem rpost_pre {B:Nat} {w w1 w':World} {r:Nat} {v:Value} {R:List RN} {F:Tr} {c:Int} {e:Ending} (hb:Below w.heap.size w w1) (h:RPost B w1 r v R F c e w'):RPost B w r v R F c e w':=by
 obtain⟨he,v',R',ht,hu,ho,hp⟩:=h
 exact⟨he,v',R',ht,(Turn.of_below (X:=r::ob v) hb).trans hu (fun y hy=> .inl hy),fun b hx=>(ho b hx).imp id (fun h=>Nat.le_trans hb.size h),fun b hx=>(hp b hx).imp id (fun h=>Nat.le_trans hb.size h)⟩
theorem setN_at {p:List UInt8} {g g':TE→TE} {F:Tr} {n:TE} (hn:getT (splitL p) F.L=some n) (h:g n=g' n):setN p g F=setN p g' F:=by
 rw[setN,setN,hn];dsimp only;rw[h]
theorem attr_as {p:List UInt8} {X:Xs} {F:Tr} {n:TE} (hn:getT (splitL p) F.L=some n) (h0:splitE p=0):attrE p {n.at_ with xs:=X} F=chgE {n.at_ with xs:=X} n F:=by
 rw[attrE,if_neg (by rw[h0];decide),hn]
theorem push_own {B:Nat} {W wa wb:World} {T:TypeId} {v v':Value} {L:Xs} {y:List UInt8×List UInt8} {q:Nat} {n:Nat} (ho:W.ownsRow B T 2 v n (xcells L)) (hg:W.grownBy wa none) (ho2:wb.ownsRow B T 2 v' (n+1) (xcells L++xpair y)) (hk:wa.grownBy wb v.ownBlock) (hv:v'.ownBlock=v.ownBlock∨v'.ownBlock=some wa.heap.size) (hB:B≤W.heap.size) (hq:q < W.heap.size) (hn:∀ b∈ob v,b≠q):
 Below B W wb∧wb.ownsRow B T 2 v' (n+1) (xcells (L++[y]))∧wb.heap[q]? =W.heap[q]?∧∀ b∈ob v',b≠q:=by
 refine⟨((Below.refl B W).grown hg hB (fun k hk=>nomatch hk)).grown hk (Nat.le_trans hB hg.size) (fun x hx=>rowS_ge ho x (by simp[ob,hx])),?_,?_,fun b hb=>?_⟩
 · rw[xcells_app];exact ho2
 · rw[hk.block q (Nat.lt_of_lt_of_le hq hg.size) (fun h=>hn q (by simp[ob,h]) rfl)]
   exact hg.block q hq (fun h=>nomatch h)
 · rw[ob] at hb
   rcases hv with h|h
   · rw[h] at hb;exact hn b hb
   · rw[h] at hb
     simp at hb
     have:=hg.size;omega
theorem rxattr_any (B:Nat) (w:World) (r:Nat) (v:Value) (R:List RN) (F:Tr) (k:Nat) (p s d:List UInt8) (hT:Tabs w) (hp:p.length≤4611686018427387904) (hs:s.length≤maxLen) (hd:d.length≤maxLen) (hg:GoodF k F) (hk:k≤1000) (hc:F.clock≤1000000) (hB:B≤w.heap.size) (h:RTree B w r v R F):
 Calls Tryz.prog 49 #[ptr r,.string ⟨p.toArray⟩,.string ⟨s.toArray⟩,.string ⟨d.toArray⟩] w (RPost B w r v R (if xattrE p s d F=0 then setN p (fun n=>{n with at_:=xattrA s d n.at_}) F else F) (xattrE p s d F)):=by
 have hlen:R.length≤1000000:=by rw[h.len];have:=hg.len;omega
 have FI:=rfind_any B w r v R F p hT hp hg.srt hlen h
 have H:=hid h;have HG:=hid hg;have HT:=hid hT
 obtain⟨F2,hF2⟩:∃ F2,F2=if xattrE p s d F=0 then setN p (fun n=>{n with at_:=xattrA s d n.at_}) F else F:=⟨_,rfl⟩
 obtain⟨c2,hc2⟩:∃ c2,c2=xattrE p s d F:=⟨_,rfl⟩
 rw[←hF2,←hc2]
 have NO:Hid (∀ (w1:World) (c:Int),Below w.heap.size w w1→xattrE p s d F=c→c≠0→RPost B w r v R F2 c2 (.returned (.int .i64 c)) w1):=hid (fun w1 c hb he hn=>by
  rw[hF2,hc2,if_neg (by rw[he];exact hn),he]
  exact rpost_same H.out hb rfl)
 have HF2:=hid hF2;have HC2:=hid hc2
 obtain⟨va,vc,rfl⟩:=rowS_slice h.row
 have hfe0:findE p F.L=if splitE p=0 then(if (getT (splitL p) F.L).isSome then 0 else 6) else 10:=rfl
 clear h hT hg hF2 hc2
 unfold ptr at*
 by_cases hf:findE p F.L=0
 case neg=>
  have HC:Hid (xattrE p s d F=findE p F.L):=hid (by
   rw[xattrE,hfe0]
   by_cases h0:splitE p=0
   · rw[if_neg (by rw[h0];decide),if_pos h0]
     rw[hfe0,if_pos h0] at hf
     cases hgt:getT (splitL p) F.L with
     |none=>rfl
     |some n=>rw [hgt] at hf;exact absurd rfl hf
   · rw[if_pos h0,if_neg h0])
  rw[rfind_no hf] at FI
  have FI:=hid FI
  have HN:=hid hf
  obtain⟨c,hc⟩:∃ c,c=findE p F.L:=⟨_,rfl⟩
  have HCF:=hid hc
  rw[←hc] at FI hf
  have hb:(c==0)=false:=by rw[beq_eq_false_iff_ne];exact hf
  have hb2:(c !=0)=true:=by rw[bne,hb];rfl
  clear hf hc hfe0
  go_enter Tryz.func49,Tryz.ntmps49
  go_wp2_with fail
  refine FI.out.mono ?_
  rintro ex w1 ⟨rfl,hb1⟩
  have HB:=hid hb1
  clear FI hb1
  go_wp2
  go_ret
  exact NO.out _ _ HB.out (by rw[HC.out,HCF.out]) (by rw[HCF.out];exact HN.out)
 obtain⟨i,e,hfi,hi,hen,hg',hs0⟩:=rfind_yes HG.out.srt hf
 obtain⟨n,hn,hne⟩:=H.out.get hi
 have hil:i < R.length:=(List.getElem?_eq_some_iff.1 hn).1
 have hilt:(i:Int) < (R.length:Int):=by omega
 have HGE:Hid (getT (splitL p) F.L=some n.te):=hid (by rw[hg',hne])
 have HWD:Hid (xattrE p s d F=attrE p (xattrA s d n.at_) F):=hid (by
  rw[show xattrA s d n.at_={n.te.at_ with xs:=putX s d n.at_.xs} from rfl,attr_as HGE.out hs0,xattrE,if_neg (by rw[hs0];decide),HGE.out];rfl)
 have HSET:Hid (setN p (fun n'=>{n' with at_:=asOf (xattrA s d n.at_) n'}) F=setN p (fun n'=>{n' with at_:=xattrA s d n'.at_}) F):=hid (setN_at HGE.out rfl)
 have hcf:=fine_of_chk (HG.out.att n.te (List.mem_of_getElem? (H.out.at_ hn)))
 have HFX:Hid (rxL s d false n.at_.xs=putX s d n.at_.xs):=hid (rx_put s d hcf.1)
 have HX16:n.at_.xs.length≤16:=hcf.2
 rw[hfi,hf] at FI
 have FI:=hid FI
 have HN:=hid hn
 obtain⟨gv,cap,hv,hgv⟩:=H.out.form (by omega)
 injection hv with e1 e2 e3
 subst e1 e3
 have KS:Hid (∀ w2,Below w.heap.size w w2→w2.cell? ⟨r,0,none⟩=some (.slice (some ⟨gv,0,none⟩) R.length vc)∧w2.rangeAt gv (i*11+1) (n.at_.cells n.xv)∧XsAt w2 n.xv n.at_.xs):=hid (fun w2 hb=>by
  have HX:=H.out.below hb
  refine⟨cell_of_heap HX.book,fun t u hu=>?_,(HX.node n (List.mem_of_getElem? HN.out)).2⟩
  have:=HX.ent HN.out (1+t) u (by
   rw[RN.cells,Nat.add_comm 1 t,List.getElem?_cons_succ,List.getElem?_append_left (List.getElem?_eq_some_iff.1 hu).1];exact hu)
  rw[Nat.add_assoc];exact this)
 clear hf hfi hi hen hg' hs0 hn hne e2 hfe0 hcf
 go_enter Tryz.func49,Tryz.ntmps49
 go_wp2_with fail
 refine FI.out.mono ?_
 rintro ex w2 ⟨rfl,hb2⟩
 have HB2:=hid hb2
 clear hb2 FI
 obtain⟨c0,hrg,hxs⟩:=KS.out w2 HB2.out
 have HRG:=hid hrg;have HXS:=hid hxs
 have ON:=hid (atOne n.at_ (xs_one hxs))
 clear hrg hxs
 go_upto_region 5 with(first
  |(refine wpList_load_mid rfl _ _ rfl gv (i*11+1) rfl (n.at_.cells n.xv) _ HRG.out Tryz.underlying67 rfl (infoAtR n.at_ n.xv) ?_)
  |(refine Sh.wpList_store_new rfl rfl AtR (.tmp 11) (.tmp 32) rfl (n.at_.cells n.xv).toArray rfl rfl (infoAtR _ _) rfl ON.out ?_
    intro w3 hq3 hb3 hs3
    have HQ3:=hid hq3;have HB3:=hid hb3
    clear hq3 hb3 hs3)
  |fail)
 obtain⟨xs,hxs⟩:∃ xs,xs=n.at_.xs:=⟨_,rfl⟩
 have hxv:=HXS.out
 rw[←hxs] at hxv HX16
 obtain⟨xa,xc,hxe,hxm,hxl,hxc⟩:=hxv
 obtain⟨i0,hi0,hz0,hz1,hz2⟩:=info_parts infoXaR
 have hz3:(Value.agg #[.string ⟨#[]⟩,.string ⟨#[]⟩]).cells.size=2:=by kernel_rfl
 have KB:Hid (∀ w',Below w3.heap.size w3 w'→w'.cell? ⟨w2.heap.size,6,none⟩=some (.slice xa xs.length xc)):=hid (fun w' hb=>by
  rw[←hxe];exact cell_of_heap ((hb.block _ (lt_of_heap HQ3.out)).trans HQ3.out))
 have HXC:=hid hxc;have HXL:=hid hxl;have HXE:=hid hxs
 have H16:Hid (xs.length≤16):=hid HX16
 clear hxe hxm hxl hxc hxs c0 HX16
 go_wp2
 go_loopw [12,13,14] (fun v12 v13 v14 wr=>∃ j:Nat,j≤xs.length∧v14= .int .i64 (j:Int)∧v13= .bool (rxD s (xs.take j))∧∃ L va vc',v12= .slice va L.length vc'∧Hid (L=rxA s d (xs.take j))∧Hid (wr.ownsRow w3.heap.size XaR 2 (.slice va L.length vc') L.length (xcells L))∧Hid (Below w3.heap.size w3 wr)) (fun _ _ v14 _=>xs.length - (RowKit.intOf v14).toNat)
 case atStart=>exact ⟨0,Nat.zero_le _,rfl,rfl,[],none,0,rfl,hid rfl,hid (rowS_nil _ _ _ _),hid (Below.refl _ _)⟩
 case round=>
  obtain⟨j,hj,rfl,rfl,L,va,vc',rfl,HL,HO,HB⟩:=hrel
  have c6:=KB.out wr HB.out
  have h16:=H16.out
  have HLL:Hid (L.length≤17):=hid (by have h1:=rxA_len s d (xs.take j);have h2:=H16.out;rw[←HL.out,List.length_take] at h1;omega)
  obtain⟨D,hD⟩:∃ D,D=rxD s (xs.take j):=⟨_,rfl⟩
  rw[←hD]
  by_cases hil:(j:Int) < (xs.length:Int)
  · have hj1:j < xs.length:=by omega
    obtain⟨x,hx⟩:∃ x,xs[j]? =some x:=⟨_,List.getElem?_eq_getElem hj1⟩
    obtain⟨xb,xo,rfl,hxb,hcl⟩:=HXC.out (fun h=>by rw[h] at hj1;cases hj1)
    obtain⟨hc1,hc2⟩:=hcl j x hx
    have hbw:Below w2.heap.size w2 wr:=HB3.out.trans (HB.out.mono HB3.out.size)
    have cx1:=(World.cell?_of_block (a:=⟨xb,xo+j*2,none⟩) (hbw.block xb hxb)).trans hc1
    have cx2:=(World.cell?_of_block (a:=⟨xb,xo+j*2+1,none⟩) (hbw.block xb hxb)).trans hc2
    have htk:xs.take (j+1)=xs.take j++[x]:=by rw[List.take_add_one,hx];rfl
    have HDN:Hid (rxD s (xs.take (j+1))=(D|| !lt x.1 s)):=hid (by rw[htk,rxD_snoc,hD])
    have HLN:Hid (rxA s d (xs.take (j+1))=L++((if !D && !lt x.1 s then [(s,d)] else [])++(if x.1≠s then [x] else []))):=hid (by rw[htk,rxA_snoc,HL.out,hD])
    clear hcl hc1 hc2 hbw htk hx hD
    go_upto_region 11 with(fail)
    obtain⟨W4,hW4⟩:∃ W4,W4=wr.alloc (.cells (xpair x).toArray XaR):=⟨_,rfl⟩
    have hv4:W4.heap[wr.heap.size]? =some (.cells (xpair x).toArray XaR):=by rw[hW4];exact(MapKept.heap_alloc wr _).1
    have HB4:Hid (Below w3.heap.size w3 W4):=hid (by rw[hW4];exact HB.out.alloc HB.out.size _)
    have HO4:Hid (W4.ownsRow w3.heap.size XaR 2 (.slice va L.length vc') L.length (xcells L)):=hid (rowS_kept HO.out (fun y _ hl=>by rw[hW4];exact(Below.heap_alloc _ _ y hl)))
    have HQ4:Hid (∀ b∈ob (.slice va L.length vc'),b≠wr.heap.size):=hid (fun b hb=>Nat.ne_of_lt (rowS_lt HO.out b hb))
    have cv4:W4.cell? ⟨wr.heap.size,0,none⟩=some (.string ⟨x.1.toArray⟩):=cell_of_heap hv4
    have cw4:W4.cell? ⟨wr.heap.size,1,none⟩=some (.string ⟨x.2.toArray⟩):=cell_of_heap hv4
    have HV4:=hid hv4
    change Code.wp _ _ _ _ (wr.alloc (.cells (xpair x).toArray XaR))
    rw[←hW4]
    clear hW4 hv4 c6 cx1 cx2 HO HB
    cases D with
    |true=>
     by_cases heq:x.1=s
     · have l1:Op.bytesLess x.1 s=false:=by rw[lt_less,heq];exact lt_irrefl _
       have l2:Op.bytesLess s x.1=false:=by rw[lt_less,heq];exact lt_irrefl _
       have q1:(x.1==s)=true:=by simpa using heq
       have q2:(s==x.1)=true:=by simpa using heq.symm
       have HT1:Hid (lt x.1 s=false):=hid (by rw[heq];exact lt_irrefl _)
       have HEQ:=hid heq
       clear heq
       go_wp2
       go_roundw
       case rel=>exact ⟨j+1,by omega,by go_num,by rw[HDN.out];rfl,L,_,_,rfl,hid (by rw[HLN.out];rw[if_neg (show ¬ x.1≠s from fun h=>h HEQ.out)];simp),HO4,HB4⟩
       case measure=>simp [RowKit.intOf];omega
     rcases lt_total heq with hlt|hgt
     · have hne:x.1≠s:=lt_ne hlt
       have l1:Op.bytesLess x.1 s=true:=by rw[lt_less];exact hlt
       have l2:Op.bytesLess s x.1=false:=by rw[lt_less];exact lt_asymm hlt
       have q1:(x.1==s)=false:=by simpa using hne
       have q2:(s==x.1)=false:=by simpa using fun h=>hne h.symm
       have HT1:=hid hlt;have HNE:=hid hne
       clear hlt hne
       go_wp2_with (first
        |(refine wpList_oneH 2 (by decide) (by decide) rfl 65 XaR (.tmp 64) (xpair x) i0 _ rfl rfl Tryz.underlying65 hi0 hz0 hz1 rfl ?_
          intro yb wab hhb hgb hyb hsb
          have HHb:=hid hhb;have HGb:=hid hgb
          clear hhb hgb hyb hsb)
        |(refine wpList_appendN 2 (by decide) rfl _ _ 65 rfl w3.heap.size XaR i0 _ 32 Tryz.underlying65 hi0 hz0 hz1 hz2 hz3 _ (L.length) (xcells L) rfl (rowS_kept HO4.out (fun x _ hl=>HGb.out.block x hl (fun h=>nomatch h))) _ 1 (xpair x) rfl HHb.out rfl (xpair_one x) (by have:=HLL.out;unfold maxLen;simp;omega) (by have:=HLL.out;simp;omega) (Nat.le_trans HB4.out.size HGb.out.size) ?_
          intro vb wbb hob hkb hvb
          have HPb:=hid (push_own (y:=x) HO4.out HGb.out hob hkb hvb HB4.out.size (lt_of_heap HV4.out) HQ4.out)
          obtain⟨ab,cb,rfl⟩:=rowS_slice HPb.out.2.1
          have HOb:=hid HPb.out.2.1
          have HBb:Hid (Below w3.heap.size w3 wbb):=hid (HB4.out.trans HPb.out.1)
          have HVb:Hid (wbb.heap[wr.heap.size]? =some (.cells (xpair x).toArray XaR)):=hid (HPb.out.2.2.1.trans HV4.out)
          have HQb:=hid HPb.out.2.2.2
          have cvb:wbb.cell? ⟨wr.heap.size,0,none⟩=some (.string ⟨x.1.toArray⟩):=cell_of_heap HVb.out
          have cwb:wbb.cell? ⟨wr.heap.size,1,none⟩=some (.string ⟨x.2.toArray⟩):=cell_of_heap HVb.out
          clear hob hkb hvb HPb HHb HGb)
        |fail)
       go_roundw
       case rel=>exact ⟨j+1,by omega,by go_num,by rw[HDN.out];rfl,L++[x],_,_,(by rw[List.length_append];rfl),hid (by rw[HLN.out];rw[if_pos HNE.out];simp),hid (by rw[List.length_append];exact HOb.out),HBb⟩
       case measure=>simp [RowKit.intOf];omega
     · have hne:x.1≠s:=fun h=>lt_ne hgt h.symm
       have l1:Op.bytesLess x.1 s=false:=by rw[lt_less];exact lt_asymm hgt
       have l2:Op.bytesLess s x.1=true:=by rw[lt_less];exact hgt
       have q1:(x.1==s)=false:=by simpa using hne
       have q2:(s==x.1)=false:=by simpa using fun h=>hne h.symm
       have HT1:Hid (lt x.1 s=false):=hid (lt_asymm hgt)
       have HNE:=hid hne
       clear hgt hne
       go_wp2_with (first
        |(refine wpList_oneH 2 (by decide) (by decide) rfl 65 XaR (.tmp 64) (xpair x) i0 _ rfl rfl Tryz.underlying65 hi0 hz0 hz1 rfl ?_
          intro yb wab hhb hgb hyb hsb
          have HHb:=hid hhb;have HGb:=hid hgb
          clear hhb hgb hyb hsb)
        |(refine wpList_appendN 2 (by decide) rfl _ _ 65 rfl w3.heap.size XaR i0 _ 32 Tryz.underlying65 hi0 hz0 hz1 hz2 hz3 _ (L.length) (xcells L) rfl (rowS_kept HO4.out (fun x _ hl=>HGb.out.block x hl (fun h=>nomatch h))) _ 1 (xpair x) rfl HHb.out rfl (xpair_one x) (by have:=HLL.out;unfold maxLen;simp;omega) (by have:=HLL.out;simp;omega) (Nat.le_trans HB4.out.size HGb.out.size) ?_
          intro vb wbb hob hkb hvb
          have HPb:=hid (push_own (y:=x) HO4.out HGb.out hob hkb hvb HB4.out.size (lt_of_heap HV4.out) HQ4.out)
          obtain⟨ab,cb,rfl⟩:=rowS_slice HPb.out.2.1
          have HOb:=hid HPb.out.2.1
          have HBb:Hid (Below w3.heap.size w3 wbb):=hid (HB4.out.trans HPb.out.1)
          have HVb:Hid (wbb.heap[wr.heap.size]? =some (.cells (xpair x).toArray XaR)):=hid (HPb.out.2.2.1.trans HV4.out)
          have HQb:=hid HPb.out.2.2.2
          have cvb:wbb.cell? ⟨wr.heap.size,0,none⟩=some (.string ⟨x.1.toArray⟩):=cell_of_heap HVb.out
          have cwb:wbb.cell? ⟨wr.heap.size,1,none⟩=some (.string ⟨x.2.toArray⟩):=cell_of_heap HVb.out
          clear hob hkb hvb HPb HHb HGb)
        |fail)
       go_roundw
       case rel=>exact ⟨j+1,by omega,by go_num,by rw[HDN.out];rfl,L++[x],_,_,(by rw[List.length_append];rfl),hid (by rw[HLN.out];rw[if_pos HNE.out];simp),hid (by rw[List.length_append];exact HOb.out),HBb⟩
       case measure=>simp [RowKit.intOf];omega
    |false=>
     by_cases heq:x.1=s
     · have l1:Op.bytesLess x.1 s=false:=by rw[lt_less,heq];exact lt_irrefl _
       have l2:Op.bytesLess s x.1=false:=by rw[lt_less,heq];exact lt_irrefl _
       have q1:(x.1==s)=true:=by simpa using heq
       have q2:(s==x.1)=true:=by simpa using heq.symm
       have HT1:Hid (lt x.1 s=false):=hid (by rw[heq];exact lt_irrefl _)
       have HEQ:=hid heq
       clear heq
       go_wp2_with (first
        |(refine wpList_oneH 2 (by decide) (by decide) rfl 65 XaR (.tmp 56) (xpair (s,d)) i0 _ rfl rfl Tryz.underlying65 hi0 hz0 hz1 rfl ?_
          intro ya waa hha hga hya hsa
          have HHa:=hid hha;have HGa:=hid hga
          clear hha hga hya hsa)
        |(refine wpList_appendN 2 (by decide) rfl _ _ 65 rfl w3.heap.size XaR i0 _ 32 Tryz.underlying65 hi0 hz0 hz1 hz2 hz3 _ (L.length) (xcells L) rfl (rowS_kept HO4.out (fun x _ hl=>HGa.out.block x hl (fun h=>nomatch h))) _ 1 (xpair (s,d)) rfl HHa.out rfl (xpair_one (s,d)) (by have:=HLL.out;unfold maxLen;simp;omega) (by have:=HLL.out;simp;omega) (Nat.le_trans HB4.out.size HGa.out.size) ?_
          intro va wba hoa hka hva
          have HPa:=hid (push_own (y:=(s,d)) HO4.out HGa.out hoa hka hva HB4.out.size (lt_of_heap HV4.out) HQ4.out)
          obtain⟨aa,ca,rfl⟩:=rowS_slice HPa.out.2.1
          have HOa:=hid HPa.out.2.1
          have HBa:Hid (Below w3.heap.size w3 wba):=hid (HB4.out.trans HPa.out.1)
          have HVa:Hid (wba.heap[wr.heap.size]? =some (.cells (xpair x).toArray XaR)):=hid (HPa.out.2.2.1.trans HV4.out)
          have HQa:=hid HPa.out.2.2.2
          have cva:wba.cell? ⟨wr.heap.size,0,none⟩=some (.string ⟨x.1.toArray⟩):=cell_of_heap HVa.out
          have cwa:wba.cell? ⟨wr.heap.size,1,none⟩=some (.string ⟨x.2.toArray⟩):=cell_of_heap HVa.out
          clear hoa hka hva HPa HHa HGa)
        |fail)
       go_roundw
       case rel=>exact ⟨j+1,by omega,by go_num,by rw[HDN.out,HT1.out];rfl,(L++[(s,d)]),_,_,(by rw[List.length_append];rfl),hid (by rw[HLN.out,HT1.out];rw[if_neg (show ¬ x.1≠s from fun h=>h HEQ.out)];simp),hid (by rw[List.length_append];exact HOa.out),HBa⟩
       case measure=>simp [RowKit.intOf];omega
     rcases lt_total heq with hlt|hgt
     · have hne:x.1≠s:=lt_ne hlt
       have l1:Op.bytesLess x.1 s=true:=by rw[lt_less];exact hlt
       have l2:Op.bytesLess s x.1=false:=by rw[lt_less];exact lt_asymm hlt
       have q1:(x.1==s)=false:=by simpa using hne
       have q2:(s==x.1)=false:=by simpa using fun h=>hne h.symm
       have HT1:=hid hlt;have HNE:=hid hne
       clear hlt hne
       go_wp2_with (first
        |(refine wpList_oneH 2 (by decide) (by decide) rfl 65 XaR (.tmp 64) (xpair x) i0 _ rfl rfl Tryz.underlying65 hi0 hz0 hz1 rfl ?_
          intro yb wab hhb hgb hyb hsb
          have HHb:=hid hhb;have HGb:=hid hgb
          clear hhb hgb hyb hsb)
        |(refine wpList_appendN 2 (by decide) rfl _ _ 65 rfl w3.heap.size XaR i0 _ 32 Tryz.underlying65 hi0 hz0 hz1 hz2 hz3 _ (L.length) (xcells L) rfl (rowS_kept HO4.out (fun x _ hl=>HGb.out.block x hl (fun h=>nomatch h))) _ 1 (xpair x) rfl HHb.out rfl (xpair_one x) (by have:=HLL.out;unfold maxLen;simp;omega) (by have:=HLL.out;simp;omega) (Nat.le_trans HB4.out.size HGb.out.size) ?_
          intro vb wbb hob hkb hvb
          have HPb:=hid (push_own (y:=x) HO4.out HGb.out hob hkb hvb HB4.out.size (lt_of_heap HV4.out) HQ4.out)
          obtain⟨ab,cb,rfl⟩:=rowS_slice HPb.out.2.1
          have HOb:=hid HPb.out.2.1
          have HBb:Hid (Below w3.heap.size w3 wbb):=hid (HB4.out.trans HPb.out.1)
          have HVb:Hid (wbb.heap[wr.heap.size]? =some (.cells (xpair x).toArray XaR)):=hid (HPb.out.2.2.1.trans HV4.out)
          have HQb:=hid HPb.out.2.2.2
          have cvb:wbb.cell? ⟨wr.heap.size,0,none⟩=some (.string ⟨x.1.toArray⟩):=cell_of_heap HVb.out
          have cwb:wbb.cell? ⟨wr.heap.size,1,none⟩=some (.string ⟨x.2.toArray⟩):=cell_of_heap HVb.out
          clear hob hkb hvb HPb HHb HGb)
        |fail)
       go_roundw
       case rel=>exact ⟨j+1,by omega,by go_num,by rw[HDN.out,HT1.out];rfl,L++[x],_,_,(by rw[List.length_append];rfl),hid (by rw[HLN.out,HT1.out];rw[if_pos HNE.out];simp),hid (by rw[List.length_append];exact HOb.out),HBb⟩
       case measure=>simp [RowKit.intOf];omega
     · have hne:x.1≠s:=fun h=>lt_ne hgt h.symm
       have l1:Op.bytesLess x.1 s=false:=by rw[lt_less];exact lt_asymm hgt
       have l2:Op.bytesLess s x.1=true:=by rw[lt_less];exact hgt
       have q1:(x.1==s)=false:=by simpa using hne
       have q2:(s==x.1)=false:=by simpa using fun h=>hne h.symm
       have HT1:Hid (lt x.1 s=false):=hid (lt_asymm hgt)
       have HNE:=hid hne
       clear hgt hne
       go_wp2_with (first
        |(refine wpList_oneH 2 (by decide) (by decide) rfl 65 XaR (.tmp 56) (xpair (s,d)) i0 _ rfl rfl Tryz.underlying65 hi0 hz0 hz1 rfl ?_
          intro ya waa hha hga hya hsa
          have HHa:=hid hha;have HGa:=hid hga
          clear hha hga hya hsa)
        |(refine wpList_appendN 2 (by decide) rfl _ _ 65 rfl w3.heap.size XaR i0 _ 32 Tryz.underlying65 hi0 hz0 hz1 hz2 hz3 _ (L.length) (xcells L) rfl (rowS_kept HO4.out (fun x _ hl=>HGa.out.block x hl (fun h=>nomatch h))) _ 1 (xpair (s,d)) rfl HHa.out rfl (xpair_one (s,d)) (by have:=HLL.out;unfold maxLen;simp;omega) (by have:=HLL.out;simp;omega) (Nat.le_trans HB4.out.size HGa.out.size) ?_
          intro va wba hoa hka hva
          have HPa:=hid (push_own (y:=(s,d)) HO4.out HGa.out hoa hka hva HB4.out.size (lt_of_heap HV4.out) HQ4.out)
          obtain⟨aa,ca,rfl⟩:=rowS_slice HPa.out.2.1
          have HOa:=hid HPa.out.2.1
          have HBa:Hid (Below w3.heap.size w3 wba):=hid (HB4.out.trans HPa.out.1)
          have HVa:Hid (wba.heap[wr.heap.size]? =some (.cells (xpair x).toArray XaR)):=hid (HPa.out.2.2.1.trans HV4.out)
          have HQa:=hid HPa.out.2.2.2
          have cva:wba.cell? ⟨wr.heap.size,0,none⟩=some (.string ⟨x.1.toArray⟩):=cell_of_heap HVa.out
          have cwa:wba.cell? ⟨wr.heap.size,1,none⟩=some (.string ⟨x.2.toArray⟩):=cell_of_heap HVa.out
          clear hoa hka hva HPa HHa HGa)
        |(refine wpList_oneH 2 (by decide) (by decide) rfl 65 XaR (.tmp 64) (xpair x) i0 _ rfl rfl Tryz.underlying65 hi0 hz0 hz1 rfl ?_
          intro yb wab hhb hgb hyb hsb
          have HHb:=hid hhb;have HGb:=hid hgb
          clear hhb hgb hyb hsb)
        |(refine wpList_appendN 2 (by decide) rfl _ _ 65 rfl w3.heap.size XaR i0 _ 32 Tryz.underlying65 hi0 hz0 hz1 hz2 hz3 _ (L.length+1) (xcells (L++[(s,d)])) rfl (rowS_kept HOa.out (fun x _ hl=>HGb.out.block x hl (fun h=>nomatch h))) _ 1 (xpair x) rfl HHb.out rfl (xpair_one x) (by have:=HLL.out;unfold maxLen;simp;omega) (by have:=HLL.out;simp;omega) (Nat.le_trans HBa.out.size HGb.out.size) ?_
          intro vb wbb hob hkb hvb
          have HPb:=hid (push_own (y:=x) HOa.out HGb.out hob hkb hvb HBa.out.size (lt_of_heap HVa.out) HQa.out)
          obtain⟨ab,cb,rfl⟩:=rowS_slice HPb.out.2.1
          have HOb:=hid HPb.out.2.1
          have HBb:Hid (Below w3.heap.size w3 wbb):=hid (HBa.out.trans HPb.out.1)
          have HVb:Hid (wbb.heap[wr.heap.size]? =some (.cells (xpair x).toArray XaR)):=hid (HPb.out.2.2.1.trans HVa.out)
          have HQb:=hid HPb.out.2.2.2
          have cvb:wbb.cell? ⟨wr.heap.size,0,none⟩=some (.string ⟨x.1.toArray⟩):=cell_of_heap HVb.out
          have cwb:wbb.cell? ⟨wr.heap.size,1,none⟩=some (.string ⟨x.2.toArray⟩):=cell_of_heap HVb.out
          clear hob hkb hvb HPb HHb HGb)
        |fail)
       go_roundw
       case rel=>exact ⟨j+1,by omega,by go_num,by rw[HDN.out,HT1.out];rfl,(L++[(s,d)])++[x],_,_,(by rw[List.length_append,List.length_append];rfl),hid (by rw[HLN.out,HT1.out];rw[if_pos HNE.out];simp),hid (by rw[List.length_append,List.length_append];exact HOb.out),HBb⟩
       case measure=>simp [RowKit.intOf];omega
  · obtain rfl:j=xs.length:=by omega
    have HLX:Hid (rxL s d false xs=L++(if D then [] else [(s,d)])):=hid (by rw[rxL_eq,HL.out,hD,List.take_length])
    have KBX:Hid (∀ w',Below w3.heap.size w3 w'→w'.heap[w2.heap.size]? =some (.cells (n.at_.cells n.xv).toArray AtR)):=hid (fun w' hb=>(hb.block _ (lt_of_heap HQ3.out)).trans HQ3.out)
    have HQ4:Hid (∀ b∈ob (.slice va L.length vc'),b≠wr.heap.size):=hid (fun b hb=>Nat.ne_of_lt (rowS_lt HO.out b hb))
    have FIN:Hid (∀ (w9 w':World) (v9:Value) (L9:Xs) (e':Ending),rxL s d false xs=L9→Below w3.heap.size w3 w9→w9.ownsRow w3.heap.size XaR 2 v9 L9.length (xcells L9)→(RPost B (w9.setCell ⟨w2.heap.size,6,none⟩ v9) r (.slice (some ⟨gv,0,none⟩) R.length vc) R (if attrE p (xattrA s d n.at_) F=0 then setN p (fun n'=>{n' with at_:=asOf (xattrA s d n.at_) n'}) F else F) (attrE p (xattrA s d n.at_) F)) e' w'→RPost B w r (.slice (some ⟨gv,0,none⟩) R.length vc) R F2 c2 e' w'):=hid (fun w9 w' v9 L9 e' _ hb9 _ hp=>by
     have hbw:Below w.heap.size w (w9.setCell ⟨w2.heap.size,6,none⟩ v9):=(HB2.out.trans ((HB3.out.trans (hb9.mono HB3.out.size)).mono HB2.out.size)).setCell HB2.out.size _
     rw[HSET.out,←HWD.out,←HF2.out,←HC2.out] at hp
     exact rpost_pre hbw hp)
    have CAL:Hid (∀ (w9:World) (a9:Option Addr) (n9 c9:Nat) (L9:Xs),rxL s d false xs=L9→L9.length=n9→Below w3.heap.size w3 w9→w9.ownsRow w3.heap.size XaR 2 (.slice a9 n9 c9) n9 (xcells L9)→Calls Tryz.prog 33 #[.pointer (some ⟨r,0,none⟩),.string ⟨p.toArray⟩,.agg ((xattrA s d n.at_).cells (.slice a9 n9 c9)).toArray] (w9.setCell ⟨w2.heap.size,6,none⟩ (.slice a9 n9 c9)) (RPost B (w9.setCell ⟨w2.heap.size,6,none⟩ (.slice a9 n9 c9)) r (.slice (some ⟨gv,0,none⟩) R.length vc) R (if attrE p (xattrA s d n.at_) F=0 then setN p (fun n'=>{n' with at_:=asOf (xattrA s d n.at_) n'}) F else F) (attrE p (xattrA s d n.at_) F))):=hid (fun w9 a9 n9 c9 L9 hl9 hn9 hb9 ho9=>by
     subst hn9
     have hbw:Below w.heap.size w (w9.setCell ⟨w2.heap.size,6,none⟩ (.slice a9 L9.length c9)):=(HB2.out.trans ((HB3.out.trans (hb9.mono HB3.out.size)).mono HB2.out.size)).setCell HB2.out.size _
     have hxe:(xattrA s d n.at_).xs=L9:=by rw[←hl9,HXE.out,HFX.out];rfl
     have hsz:w2.heap.size < w3.heap.size:=lt_of_heap HQ3.out
     have ho:(w9.setCell ⟨w2.heap.size,6,none⟩ (.slice a9 L9.length c9)).ownsRow w3.heap.size XaR 2 (.slice a9 L9.length c9) L9.length (xcells L9):=rowS_kept ho9 (fun b hb _=>Below.heap_setCell _ _ _ _ (by intro e;have:=rowS_ge ho9 b hb;rw[show b=w2.heap.size from e] at this;omega))
     have hx:=xs_of_ownE ho (fun x hx=>by
      rcases rxL_mem (show x∈rxL s d false xs by rw[hl9];exact hx) with h1|rfl
      · exact HXL.out x h1
      · exact⟨hs,hd⟩)
     have ht:=H.out.below hbw
     have:=rattr_any B (w9.setCell ⟨w2.heap.size,6,none⟩ (.slice a9 L9.length c9)) r (.slice (some ⟨gv,0,none⟩) R.length vc) R F k p (xattrA s d n.at_) (.slice a9 L9.length c9) (HT.out.below hbw) hp (by rw[hxe];exact hx.1) (fun b hb=>by
      rw[hxe] at hb
      have h1:=hx.2 b hb;have h2:=lt_of_heap H.out.book;have h3:=HB2.out.size;omega) HG.out hk hc (Nat.le_trans hB hbw.size) ht
     unfold ptr at this
     exact this)
    clear hD
    cases D with
    |true=>
     have HL9:Hid (rxL s d false xs=L):=hid (by rw[HLX.out,if_pos rfl,List.append_nil])
     have hq0:=KBX.out wr HB.out
     have f6:wr.frozen? ⟨w2.heap.size,6,none⟩=false:=frozen_of_heap hq0
     have HQ9:Hid ((wr.setCell ⟨w2.heap.size,6,none⟩ (.slice va L.length vc')).heap[w2.heap.size]? =some (.cells ((xattrA s d n.at_).cells (.slice va L.length vc')).toArray AtR)):=hid (by rw[setCell_heap _ _ _ _ _ _ hq0];rfl)
     clear hq0
     go_wp2_with (first
      |(refine Sh.wpList_load_at (T:=AtR) (cs:=((xattrA s d n.at_).cells (.slice va L.length vc')).toArray) HQ9.out rfl AtR (.tmp 11) rfl rfl _ Tryz.underlying67 rfl (infoAtR _ _) ?_)
      |fail)
     refine(CAL.out wr va L.length vc' L HL9.out rfl HB.out HO.out).mono ?_
     intro ex w' hpost
     obtain⟨hex,hpost2⟩:=hpost
     subst hex
     have HPP:=hid (FIN.out wr w' _ L _ HL9.out HB.out HO.out ⟨rfl,hpost2⟩)
     clear hpost2
     go_wp2
     go_ret
     exact HPP.out
    |false=>
     have HL9:Hid (rxL s d false xs=L++[(s,d)]):=hid (by rw[HLX.out];rfl)
     have HQE:Hid (∀ b∈ob (.slice va L.length vc'),b≠w2.heap.size):=hid (fun b hb=>by have h1:=rowS_ge HO.out b hb;have h2:=lt_of_heap HQ3.out;omega)
     go_wp2_with (first
      |(refine wpList_oneH 2 (by decide) (by decide) rfl 65 XaR (.tmp 72) (xpair (s,d)) i0 _ rfl rfl Tryz.underlying65 hi0 hz0 hz1 rfl ?_
        intro ye wae hhe hge hye hse
        have HHe:=hid hhe;have HGe:=hid hge
        clear hhe hge hye hse)
      |(refine wpList_appendN 2 (by decide) rfl _ _ 65 rfl w3.heap.size XaR i0 _ 32 Tryz.underlying65 hi0 hz0 hz1 hz2 hz3 _ (L.length) (xcells L) rfl (rowS_kept HO.out (fun x _ hl=>HGe.out.block x hl (fun h=>nomatch h))) _ 1 (xpair (s,d)) rfl HHe.out rfl (xpair_one (s,d)) (by have:=HLL.out;unfold maxLen;simp;omega) (by have:=HLL.out;simp;omega) (Nat.le_trans HB.out.size HGe.out.size) ?_
        intro ve wbe hoe hke hve
        have HPe:=hid (push_own (y:=(s,d)) HO.out HGe.out hoe hke hve HB.out.size (Nat.lt_of_lt_of_le (lt_of_heap HQ3.out) HB.out.size) HQE.out)
        obtain⟨ae,ce,rfl⟩:=rowS_slice HPe.out.2.1
        have HOe:=hid HPe.out.2.1
        have HBe:Hid (Below w3.heap.size w3 wbe):=hid (HB.out.trans HPe.out.1)
        have hqe:=KBX.out wbe HBe.out
        have f6:wbe.frozen? ⟨w2.heap.size,6,none⟩=false:=frozen_of_heap hqe
        have d6:=KB.out wbe HBe.out
        have HQ9:Hid ((wbe.setCell ⟨w2.heap.size,6,none⟩ (.slice ae (L.length+1) ce)).heap[w2.heap.size]? =some (.cells ((xattrA s d n.at_).cells (.slice ae (L.length+1) ce)).toArray AtR)):=hid (by rw[setCell_heap _ _ _ _ _ _ hqe];rfl)
        clear hoe hke hve HPe HHe HGe hqe)
      |(refine Sh.wpList_load_at (T:=AtR) (cs:=((xattrA s d n.at_).cells (.slice ae (L.length+1) ce)).toArray) HQ9.out rfl AtR (.tmp 11) rfl rfl _ Tryz.underlying67 rfl (infoAtR _ _) ?_)
      |fail)
     refine(CAL.out wbe ae (L.length+1) ce (L++[(s,d)]) HL9.out (by rw[List.length_append];rfl) HBe.out HOe.out).mono ?_
     intro ex w' hpost
     obtain⟨hex,hpost2⟩:=hpost
     subst hex
     have HPP:=hid (FIN.out wbe w' _ (L++[(s,d)]) _ HL9.out HBe.out (by rw[List.length_append];exact HOe.out) ⟨rfl,hpost2⟩)
     clear hpost2
     go_wp2
     go_ret
     exact HPP.out
end Go.Proofs.YtnmejonfdfdegaaGreatDoor.Sr
