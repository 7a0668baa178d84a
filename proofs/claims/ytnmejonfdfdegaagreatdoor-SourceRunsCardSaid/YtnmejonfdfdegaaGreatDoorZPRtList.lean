import Derived.Test.YtnmejonfdfdegaaGreatDoorZPZz
import Derived.Test.YtnmejonfdfdegaaGreatDoorZPRtClear
import Derived.Test.YtnmejonfdfdegaaGreatDoorZPRtMake
import Derived.Test.YtnmejonfdfdegaaGreatDoorZPSrHapp
import Derived.Test.YtnmejonfdfdegaaGreatDoorZPSrXattr
import Derived.Deep.CutBlock
set_option linter.unusedSimpArgs false
set_option linter.unusedVariables false
set_option maxHeartbeats 16000000
set_option maxRecDepth 100000
namespace Go.Proofs.YtnmejonfdfdegaaGreatDoor.Sr
open Go.RowKit Go.Maps Go.WideMaps Rf Go.Proofs.YtnmejonfdfdegaaGreatDoor.Nm St
open Lib (hid)
def kidW (l m:PN):Option (List UInt8):=if kidB l m then m[l.length]? else none
theorem kid_name (l:PN) (e:TE):(kidOf l e).map (·.1)=kidW l e.nm:=by
 rw[kidW,←kidB_eq]
 cases hk:kidOf l e with
 |none=>rfl
 |some k=>
  have:=(kidOf_some.1 hk).1
  rw[Option.isSome_some,if_pos rfl,this,Option.map_some,List.getElem?_append_right (Nat.le_refl _),Nat.sub_self];rfl
theorem kids_names (L:List TE) (l:PN):(kidsT L l).map (·.1)=L.filterMap fun e=>kidW l e.nm:=by
 rw[kidsT,List.map_filterMap]
 congr 1
 funext e;exact kid_name l e
section
variable {P:Program}
theorem run_buildOneS (w:World) (t e:TypeId) (i:TypeInfo) (s:ByteArray) (ht:P.underlying t=some (.slice e)) (hi:P.info? e=some i) (hz:i.zero=some (.string ⟨#[]⟩)) (hs:i.size=1):
 (Instr.buildSlice t 1 #[(0,.string s)]).run P w= .ok (.slice (some ⟨w.heap.size,0,none⟩) 1 1) (w.alloc (.cells #[.string s] e)):=by
 simp[Instr.buildSlice,run_underlying ht,sizeOf,typeInfo,hi,hs,zeroValue,hz,Instr.fill,Value.cells]
 have hr1:Array.range 1= #[0]:=by decide
 rw[hr1]
 simp[newRow,Result.andThen]
theorem wp_oneS {o:Oper} {a:Act} {w:World} {K:Act→World→Prop} {Q:Exit→Act→World→Prop} (t e:TypeId) (x:Operand) (s:ByteArray) (i:TypeInfo) (ho:o.op= .buildSlice t 1 #[(0,x)]) (hx:a.eval x= .string s)
 (ht:P.underlying t=some (.slice e)) (hi:P.info? e=some i) (hz:i.zero=some (.string ⟨#[]⟩)) (hs:i.size=1)
 (h:K (a.put o.dst (.slice (some ⟨w.heap.size,0,none⟩) 1 1)) (w.alloc (.cells #[.string s] e))):o.wp P a w K Q:=by
 have hrun:=run_buildOneS w t e i s ht hi hz hs
 unfold Oper.wp
 simp[execOp,ho,hx,hrun,Result.andThen]
 exact h
end
theorem infoStr1:(Tryz.prog.info? 9).map (fun i=>(i.zero,i.size,i.bytes))=some (some (.string ⟨#[]⟩),1,16):=by kernel_rfl
theorem rlist_any (B:Nat) (w:World) (r:Nat) (v:Value) (R:List RN) (F:Tr) (k:Nat) (p:List UInt8) (hT:Tabs w) (hp:p.length≤4611686018427387904) (hg:GoodF k F) (hk:k≤1000) (h:RTree B w r v R F):
 Calls Tryz.prog 58 #[ptr r,.string ⟨p.toArray⟩] w (ListPost w p F.L):=by
 obtain⟨i0,hi0,hz0,hz1,hz2⟩:=info_parts infoStr1
 have hz3:(Value.string ⟨#[]⟩).cells.size=1:=by kernel_rfl
 have hlen:R.length≤1000000:=by rw[h.len];have:=hg.len;omega
 have hlen1:R.length≤2000:=by rw[h.len];have:=hg.len;omega
 have FI:=rfind_any B w r v R F p hT hp hg.srt hlen h
 have H:=hid h;have HG:=hid hg
 have NO:Hid (∀ (w1:World) (c:Int),Below w.heap.size w w1→listE p F.L=c→c≠0→ListPost w p F.L (.returned (.tuple #[.slice none 0 0,.int .i64 c])) w1):=hid (fun w1 c hb he hn=>by
  refine⟨_,by rw[he],?_,hb⟩
  rw[listN,he,if_neg hn];exact rowS_nil _ _ _ _)
 obtain⟨va,vc,rfl⟩:=rowS_slice h.row
 have hfe0:findE p F.L=if splitE p=0 then(if (getT (splitL p) F.L).isSome then 0 else 6) else 10:=rfl
 clear h hT hg
 unfold ptr at*
 by_cases hf:findE p F.L=0
 case neg=>
  have HC:Hid (listE p F.L=findE p F.L):=hid (by
   rw[listE,hfe0]
   by_cases h0:splitE p=0
   · rw[if_neg (by rw[h0];decide),if_pos h0]
     rw[hfe0,if_pos h0] at hf
     cases hgt:getT (splitL p) F.L with
     |none=>rfl
     |some n=>rw [hgt] at hf;exact absurd rfl hf
   · rw[if_pos h0,if_neg h0])
  rw[rfind_no hf] at FI
  have FI:=hid FI
  have HN:=hid hf
  obtain⟨c,hc⟩:∃ c,c=findE p F.L:=⟨_,rfl⟩
  have HCF:=hid hc
  rw[←hc] at FI hf
  have hb:(c==0)=false:=by rw[beq_eq_false_iff_ne];exact hf
  have hb2:(c !=0)=true:=by rw[bne,hb];rfl
  clear hf hc hfe0
  go_enter Tryz.func58,Tryz.ntmps58
  go_wp2_with fail
  refine FI.out.mono ?_
  rintro ex w1 ⟨rfl,hb1⟩
  have HB:=hid hb1
  clear FI hb1
  go_wp2
  go_ret2
  exact NO.out _ _ HB.out (by rw[HC.out,HCF.out]) (by rw[HCF.out];exact HN.out)
 obtain⟨i,e,hfi,hi,hen,hg',hs0⟩:=rfind_yes HG.out.srt hf
 obtain⟨n,hn,hne⟩:=H.out.get hi
 have hil:i < R.length:=(List.getElem?_eq_some_iff.1 hn).1
 have hilt:(i:Int) < (R.length:Int):=by omega
 have HWD:Hid (listE p F.L=if n.at_.node≠2 then 11 else 0):=hid (by rw[listE,if_neg (by rw[hs0];decide),hg',←hne];rfl)
 have HNMS:Hid (namesT F.L (splitL p)=R.filterMap fun m=>kidW n.nm m.nm):=hid (by
  rw[namesT,←hen,←hne,show n.te.nm=n.nm from rfl,kids_names,H.out.is,List.filterMap_map];rfl)
 have HD16:Hid (n.nm.length≤16):=hid (HG.out.deep n.te (List.mem_of_getElem? (H.out.at_ hn)))
 rw[hfi,hf] at FI
 have FI:=hid FI
 have HN:=hid hn
 obtain⟨gv,cap,hv,hgv⟩:=H.out.form (by omega)
 injection hv with e1 e2 e3
 subst e1 e3
 have HE:=hid (fun (w2:World) (hb:Below w.heap.size w w2)=>(H.out.below hb).ent HN.out)
 have C0:Hid (∀ w2,Below w.heap.size w w2→w2.cell? ⟨r,0,none⟩=some (.slice (some ⟨gv,0,none⟩) R.length vc)):=hid (fun w2 hb=>cell_of_heap (H.out.below hb).book)
 clear hf hfi hi hen hg' hs0 hn hne e2 hfe0
 go_enter Tryz.func58,Tryz.ntmps58
 go_wp2_with fail
 refine FI.out.mono ?_
 rintro ex w2 ⟨rfl,hb2⟩
 have HB2:=hid hb2
 have c0:=C0.out w2 hb2
 have HENT:=hid (HE.out w2 hb2)
 have hnd:=(H.out.below hb2).node n (List.mem_of_getElem? HN.out)
 have HON:Hid (n.cells.toArray.all (·.oneCell')=true):=hid (all_oneCell_toArray (rn_ones (strs_one hnd.1.strs) (xs_one hnd.2)))
 have HNS:=hid hnd.1.strs
 have HIN1:=hid (infoRn1 n)
 clear hb2 FI hnd
 go_upto_region 5 with(first
  |(refine wpList_load_mid rfl _ _ rfl gv (i*11) rfl n.cells _ HENT.out Tryz.underlying86 rfl (infoRn1 n) ?_)
  |(refine Sh.wpList_store_new rfl rfl RnT (.tmp 8) (.tmp 26) rfl n.cells.toArray rfl rfl HIN1.out rfl HON.out ?_
    intro w3 hq3 hb3 hs3
    have HQ3:=hid hq3;have HB3:=hid hb3
    clear hq3 hb3 hs3)
  |fail)
 have hq3:=HQ3.out
 have d0:w3.cell? ⟨w2.heap.size,1,none⟩=some (.int .u8 (n.at_.node:Int)):=cell_of_heap hq3
 have HB03:Hid (Below w.heap.size w w3):=hid (HB2.out.trans (HB3.out.mono HB2.out.size))
 clear hq3 c0
 by_cases hno:n.at_.node=2
 case neg=>
  have HC:=hid (show listE p F.L=11 by rw[HWD.out,if_pos hno])
  have q1:((n.at_.node:Int)==2)=false:=by rw[beq_eq_false_iff_ne];omega
  have q2:((n.at_.node:Int) !=2)=true:=by rw[bne_iff_ne];omega
  clear hno
  go_wp2
  go_ret2
  exact NO.out _ _ HB03.out HC.out (by decide)
 have HC:=hid (show listE p F.L=0 by rw[HWD.out,if_neg (by rw[hno];decide)])
 have q1:((n.at_.node:Int)==2)=true:=by rw[hno];rfl
 have q2:((n.at_.node:Int) !=2)=false:=by rw[hno];rfl
 obtain⟨la,lc,hlv,hll,_,_⟩:=HNS.out
 have KQ:Hid (∀ w',Below w3.heap.size w3 w'→w'.cell? ⟨w2.heap.size,0,none⟩=some (.slice la n.nm.length lc)):=hid (fun w' hb=>by
  rw[←hlv];exact cell_of_heap ((hb.block _ (lt_of_heap HQ3.out)).trans HQ3.out))
 have HLV:=hid hlv
 have hd16:=HD16.out
 clear hno hlv hll hil hilt HENT HN HE
 go_wp2
 go_loopw [9,10] (fun v9 v10 wr=>∃ i:Nat,i≤R.length∧v10= .int .i64 (i:Int)∧∃ L va vc',v9= .slice va L.length vc'∧Hid (L=(R.take i).filterMap fun m=>kidW n.nm m.nm)∧Hid (wr.ownsRow w3.heap.size 9 1 (.slice va L.length vc') L.length (L.map sv))∧Hid (Below w3.heap.size w3 wr)) (fun _ v10 _=>R.length - (RowKit.intOf v10).toNat)
 case atStart=>exact ⟨0,Nat.zero_le _,rfl,[],none,0,rfl,hid rfl,hid (rowS_nil _ _ _ _),hid (Below.refl _ _)⟩
 case round=>
  obtain⟨i,hi,rfl,L,va,vc',rfl,HL,HO,HB⟩:=hrel
  have HBW:Hid (Below w.heap.size w wr):=hid (HB03.out.trans (HB.out.mono HB03.out.size))
  have HX:=hid (H.out.below HBW.out)
  have c0:wr.cell? ⟨r,0,none⟩=some (.slice (some ⟨gv,0,none⟩) R.length vc):=C0.out wr HBW.out
  have HLL:Hid (L.length≤2000):=hid (by
   have:=List.length_filterMap_le (fun m:RN=>kidW n.nm m.nm) (R.take i)
   rw[←HL.out,List.length_take] at this;omega)
  by_cases hil:(i:Int) < (R.length:Int)
  · have hi1:i < R.length:=by omega
    obtain⟨m,hm⟩:∃ m,R[i]? =some m:=⟨_,List.getElem?_eq_getElem hi1⟩
    have hst:=(HX.out.node m (List.mem_of_getElem? hm)).1.strs
    have HST:=hid hst
    obtain⟨na,nc,hnv,hnl,_,hncell⟩:=hst
    unfold maxLen at hnl
    have HNV:=hid hnv
    have KS:Hid (∀ w',Below w3.heap.size w3 w'→w'.cell? ⟨r,0,none⟩=some (.slice (some ⟨gv,0,none⟩) R.length vc)∧w'.cell? ⟨gv,i*11,none⟩=some (.slice na m.nm.length nc)∧w'.cell? ⟨w2.heap.size,0,none⟩=some (.slice la n.nm.length lc)):=hid (fun w' hb=>by
     have hbw:=HB03.out.trans (hb.mono HB03.out.size)
     refine⟨C0.out w' hbw,?_,KQ.out w' hb⟩
     rw[←hnv];exact(H.out.below hbw).ent hm 0 _ rfl)
    have HTK:Hid ((R.take (i+1)).filterMap (fun m=>kidW n.nm m.nm)=L++(kidW n.nm m.nm).toList):=hid (by
     rw[List.take_add_one,hm,List.filterMap_append,←HL.out]
     congr 1)
    have HNC:=hid hncell
    have hwr:IntKind.i64.wrap ((n.nm.length:Int)+1)=(n.nm.length:Int)+1:=by rw[IntKind.wrap_i64];omega
    have HMEM:=hid (List.mem_of_getElem? hm)
    clear hnv hncell hm
    by_cases hlq:(m.nm.length:Int)=(n.nm.length:Int)+1
    · have CB:=hid (begins_any wr.drew n.nv m.nv n.nm m.nm (HNS.out.below (HB3.out.trans (HB.out.drew.mono HB3.out.size))) (HST.out.below (Below.refl _ wr).drew))
      rw[HNV.out,HLV.out] at CB
      have q0:((m.nm.length:Int)==(n.nm.length:Int)+1)=true:=by simpa using hlq
      have HKB:Hid (kidB n.nm m.nm=n.nm.isPrefixOf m.nm):=hid (by rw[kidB,decide_eq_true (by omega),Bool.true_and])
      have hml:n.nm.length < m.nm.length:=by omega
      cases hpre:n.nm.isPrefixOf m.nm with
      |true=>
       obtain⟨nx,hnx⟩:∃ nx,m.nm[n.nm.length]? =some nx:=⟨_,List.getElem?_eq_getElem hml⟩
       have HKS:Hid ((kidW n.nm m.nm).toList=[nx]):=hid (by rw[kidW,HKB.out,hpre,if_pos rfl,hnx];rfl)
       obtain⟨nb,no,rfl,hnb,hncl⟩:=HNC.out (fun h=>by rw[h] at hml;cases hml)
       have KZ:Hid (∀ w',Below w3.heap.size w3 w'→w'.cell? ⟨r,0,none⟩=some (.slice (some ⟨gv,0,none⟩) R.length vc)∧w'.cell? ⟨gv,i*11,none⟩=some (.slice (some ⟨nb,no,none⟩) m.nm.length nc)∧w'.cell? ⟨w2.heap.size,0,none⟩=some (.slice la n.nm.length lc)∧w'.cell? ⟨nb,no+n.nm.length,none⟩=some (.string ⟨nx.toArray⟩)):=hid (fun w' hb=>⟨(KS.out w' hb).1,(KS.out w' hb).2.1,(KS.out w' hb).2.2,by
        obtain⟨a2,c2,e2,_,_,hx2⟩:=((H.out.below (HB03.out.trans (hb.mono HB03.out.size))).node m HMEM.out).1.strs
        obtain⟨b2,o2,rfl,_,hc2⟩:=hx2 (fun h=>by rw[h] at hml;cases hml)
        rw[HNV.out] at e2
        injection e2 with e4 _ _
        injection e4 with e4
        injection e4 with e5 e6 _
        subst e5;subst e6
        exact hc2 _ _ hnx⟩)
       have qi:(n.nm.length:Int) < (m.nm.length:Int):=by omega
       rw[hpre] at CB
       clear hpre hlq hnx hncl
       go_wp2_with fail
       refine wp_region_held_drew (S:=(fun w':World=>w'.cell? ⟨r,0,none⟩=some (.slice (some ⟨gv,0,none⟩) R.length vc)∧w'.cell? ⟨gv,i*11,none⟩=some (.slice (some ⟨nb,no,none⟩) m.nm.length nc)∧w'.cell? ⟨w2.heap.size,0,none⟩=some (.slice la n.nm.length lc))) (by kernel_rfl) (KS.out _ HB.out.drew) (fun zh=>?_)
       iterate 10
        first|refine' tj 0 rfl rfl (fun _ _ _ h=>h) ?_ zh ?_|refine' tj 1 rfl rfl (fun _ _ _ h=>h) ?_ zh ?_|refine' tj 2 rfl rfl (fun _ _ _ h=>h) ?_ zh ?_|refine' tj 3 rfl rfl (fun _ _ _ h=>h) ?_ zh ?_|refine' tj 4 rfl rfl (fun _ _ _ h=>h) ?_ zh ?_|refine' tj 5 rfl rfl (fun _ _ _ h=>h) ?_ zh ?_|refine' tj 6 rfl rfl (fun _ _ _ h=>h) ?_ zh ?_|refine' tj 7 rfl rfl (fun _ _ _ h=>h) ?_ zh ?_|refine' tj 8 rfl rfl (fun _ _ _ h=>h) ?_ zh ?_|refine' tj 9 rfl rfl (fun _ _ _ h=>h) ?_ zh ?_
        rotate_left
        · intro wS hS;obtain⟨k0,k1,k2⟩:=hS;go_simp;try rfl
        try simp only[Act.put,zA,zB,zC,zD,zE,zF]
       iterate 10
        first|refine' tj 10 rfl rfl (fun _ _ _ h=>h) ?_ zh ?_|refine' tj 11 rfl rfl (fun _ _ _ h=>h) ?_ zh ?_|refine' tj 12 rfl rfl (fun _ _ _ h=>h) ?_ zh ?_|refine' tj 13 rfl rfl (fun _ _ _ h=>h) ?_ zh ?_|refine' tj 14 rfl rfl (fun _ _ _ h=>h) ?_ zh ?_|refine' tj 15 rfl rfl (fun _ _ _ h=>h) ?_ zh ?_|refine' tj 16 rfl rfl (fun _ _ _ h=>h) ?_ zh ?_|refine' tj 17 rfl rfl (fun _ _ _ h=>h) ?_ zh ?_|refine' tj 18 rfl rfl (fun _ _ _ h=>h) ?_ zh ?_|refine' tj 19 rfl rfl (fun _ _ _ h=>h) ?_ zh ?_
        rotate_left
        · intro wS hS;obtain⟨k0,k1,k2⟩:=hS;go_simp;try rfl
        try simp only[Act.put,zA,zB,zC,zD,zE,zF]
       iterate 5
        first|refine' tj 20 rfl rfl (fun _ _ _ h=>h) ?_ zh ?_|refine' tj 21 rfl rfl (fun _ _ _ h=>h) ?_ zh ?_|refine' tj 22 rfl rfl (fun _ _ _ h=>h) ?_ zh ?_|refine' tj 23 rfl rfl (fun _ _ _ h=>h) ?_ zh ?_|refine' tj 24 rfl rfl (fun _ _ _ h=>h) ?_ zh ?_
        rotate_left
        · intro wS hS;obtain⟨k0,k1,k2⟩:=hS;go_simp;try rfl
        try simp only[Act.put,zA,zB,zC,zD,zE,zF]
       refine wpAnyH_ready (rs:=[25]) (by kernel_rfl) (by simp) ?_
       refine AllReadyH.cons rfl (fun K hK=>?_) AllReadyH.nil
       go_simp
       refine CB.out.mono ?_
       rintro ex w5 ⟨rfl,hb5⟩
       have HB5:Hid (Below w3.heap.size w3 w5):=hid (HB.out.drew.trans (hb5.mono HB.out.size))
       have HW5:Hid (Below wr.heap.size wr w5):=hid ((Below.refl _ wr).drew.trans hb5)
       clear hb5 CB
       refine hK.out _ _ (KS.out _ HB5.out) ?_
       clear hK K zh
       intro zh
       try simp only[Act.put,zA,zB,zC,zD,zE,zF]
       refine' tk 26 rfl (fun _ _ _ h=>h) ?la26 zh ?_
       case la26=>intro wS hS;obtain⟨k0,k1,k2⟩:=hS;go_simp;try rfl
       try simp only[Act.put,zA,zB,zC,zD,zE,zF]
       refine wpAnyH_done (by kernel_rfl) ?_ _
       clear zh
       try simp only[Act.put,zA,zB,zC,zD,zE,zF]
       go_wp2
       have HO5:Hid (w5.ownsRow w3.heap.size 9 1 (.slice va L.length vc') L.length (L.map sv)):=hid (rowS_kept HO.out (fun y _ hl=>HW5.out.block y hl))
       go_wp2_with fail
       refine wp_region_held_drew (S:=(fun w':World=>w'.cell? ⟨r,0,none⟩=some (.slice (some ⟨gv,0,none⟩) R.length vc)∧w'.cell? ⟨gv,i*11,none⟩=some (.slice (some ⟨nb,no,none⟩) m.nm.length nc)∧w'.cell? ⟨w2.heap.size,0,none⟩=some (.slice la n.nm.length lc)∧w'.cell? ⟨nb,no+n.nm.length,none⟩=some (.string ⟨nx.toArray⟩))) (by kernel_rfl) (KZ.out _ HB5.out.drew) (fun zh=>?_)
       iterate 10
        first|refine' tj 0 rfl rfl (fun _ _ _ h=>h) ?_ zh ?_|refine' tj 1 rfl rfl (fun _ _ _ h=>h) ?_ zh ?_|refine' tj 2 rfl rfl (fun _ _ _ h=>h) ?_ zh ?_|refine' tj 3 rfl rfl (fun _ _ _ h=>h) ?_ zh ?_|refine' tj 4 rfl rfl (fun _ _ _ h=>h) ?_ zh ?_|refine' tj 5 rfl rfl (fun _ _ _ h=>h) ?_ zh ?_|refine' tj 6 rfl rfl (fun _ _ _ h=>h) ?_ zh ?_|refine' tj 7 rfl rfl (fun _ _ _ h=>h) ?_ zh ?_|refine' tj 8 rfl rfl (fun _ _ _ h=>h) ?_ zh ?_|refine' tj 9 rfl rfl (fun _ _ _ h=>h) ?_ zh ?_
        rotate_left
        · intro wS hS;obtain⟨k0,k1,k2,k3⟩:=hS;go_simp;try rfl
        try simp only[Act.put,zA,zB,zC,zD,zE,zF]
       iterate 4
        first|refine' tj 10 rfl rfl (fun _ _ _ h=>h) ?_ zh ?_|refine' tj 11 rfl rfl (fun _ _ _ h=>h) ?_ zh ?_|refine' tj 12 rfl rfl (fun _ _ _ h=>h) ?_ zh ?_|refine' tj 13 rfl rfl (fun _ _ _ h=>h) ?_ zh ?_
        rotate_left
        · intro wS hS;obtain⟨k0,k1,k2,k3⟩:=hS;go_simp;try rfl
        try simp only[Act.put,zA,zB,zC,zD,zE,zF]
       refine wpAnyH_ready (rs:=[14]) (by kernel_rfl) (by simp) ?_
       refine AllReadyH.cons rfl (fun K hK=>?_) AllReadyH.nil
       refine step_wp rfl ?_
       refine wp_oneS 57 9 (.tmp 80) ⟨nx.toArray⟩ i0 rfl ?zo1 Tryz.underlying57 hi0 hz0 hz1 ?_
       case zo1=>rfl
       obtain⟨w6,hw6⟩:∃ w6,w6=w5.drew.alloc (.cells #[.string ⟨nx.toArray⟩] 9):=⟨_,rfl⟩
       have HB6:Hid (Below w3.heap.size w3 w6):=hid (by rw[hw6];exact HB5.out.drew.alloc HB5.out.size _)
       have HQ6:Hid (w6.heap[w5.heap.size]? =some (.cells #[.string ⟨nx.toArray⟩] 9)):=hid (by rw[hw6];exact(MapKept.heap_alloc w5.drew _).1)
       have HO6:Hid (w6.ownsRow w3.heap.size 9 1 (.slice va L.length vc') L.length (L.map sv)):=hid (rowS_kept HO5.out (fun y _ hl=>by rw[hw6];exact((Below.refl w5.heap.size w5).drew.alloc (Nat.le_refl _) _).block y hl))
       rw[←hw6]
       clear hw6
       refine hK.out _ _ (KZ.out _ HB6.out) ?_
       clear hK K zh
       intro zh
       try simp only[Act.put,zA,zB,zC,zD,zE,zF]
       refine wpAnyH_ready (rs:=[15]) (by kernel_rfl) (by simp) ?_
       refine AllReadyH.cons rfl (fun K hK=>?_) AllReadyH.nil
       refine step_wp rfl ?_
       refine wp_appendN 1 (by decide) (.tmp 67) (.tmp 81) 57 rfl w3.heap.size 9 i0 _ 16 Tryz.underlying57 hi0 hz0 hz1 hz2 hz3 (.slice va L.length vc') L.length (L.map sv) ?za1 HO6.out ⟨w5.heap.size,0,none⟩ 1 1 [sv nx] ?za2 ?za3 rfl ?za6 ?za4 ?za5 HB6.out.size ?_
       case za1=>rfl
       case za2=>rfl
       case za3=>intro j u hj;rw[Addr.add_lit,Nat.zero_add,cell_of_heap HQ6.out,List.getElem?_toArray];exact hj
       case za4=>have:=HLL.out;unfold maxLen;omega
       case za5=>have:=HLL.out;omega
       case za6=>intro u hu;rw[List.mem_singleton] at hu;rw[hu];rfl
       intro v7 w7 ho7 hk7 hv7
       have HB7:Hid (Below w3.heap.size w3 w7):=hid (HB6.out.grown hk7 HB6.out.size (fun x hx=>rowS_ge HO6.out x (by simp[ob,hx])))
       obtain⟨a7,c7,rfl⟩:=rowS_slice ho7
       have HO7:=hid ho7
       clear ho7 hk7 hv7
       refine hK.out _ _ (KZ.out _ HB7.out) ?_
       clear hK K zh
       intro zh
       try simp only[Act.put,zA,zB,zC,zD,zE,zF]
       refine' tk 16 rfl (fun _ _ _ h=>h) ?ld16 zh ?_
       case ld16=>intro wS hS;obtain⟨k0,k1,k2,k3⟩:=hS;go_simp;try rfl
       try simp only[Act.put,zA,zB,zC,zD,zE,zF]
       refine wpAnyH_done (by kernel_rfl) ?_ _
       clear zh
       try simp only[Act.put,zA,zB,zC,zD,zE,zF]
       go_wp2
       go_roundw
       case rel=>exact ⟨i+1,by omega,by go_num,L++[nx],_,_,(by rw[List.length_append];rfl),hid (by rw[HTK.out,HKS.out]),hid (by rw[List.length_append,List.map_append];exact HO7.out),HB7⟩
       case measure=>simp [RowKit.intOf];omega
      |false=>
       have HKS:Hid ((kidW n.nm m.nm).toList=[]):=hid (by rw[kidW,HKB.out,hpre];rfl)
       rw[hpre] at CB
       clear hpre hlq
       go_wp2_with fail
       refine wp_region_held_drew (S:=(fun w':World=>w'.cell? ⟨r,0,none⟩=some (.slice (some ⟨gv,0,none⟩) R.length vc)∧w'.cell? ⟨gv,i*11,none⟩=some (.slice na m.nm.length nc)∧w'.cell? ⟨w2.heap.size,0,none⟩=some (.slice la n.nm.length lc))) (by kernel_rfl) (KS.out _ HB.out.drew) (fun zh=>?_)
       iterate 10
        first|refine' tj 0 rfl rfl (fun _ _ _ h=>h) ?_ zh ?_|refine' tj 1 rfl rfl (fun _ _ _ h=>h) ?_ zh ?_|refine' tj 2 rfl rfl (fun _ _ _ h=>h) ?_ zh ?_|refine' tj 3 rfl rfl (fun _ _ _ h=>h) ?_ zh ?_|refine' tj 4 rfl rfl (fun _ _ _ h=>h) ?_ zh ?_|refine' tj 5 rfl rfl (fun _ _ _ h=>h) ?_ zh ?_|refine' tj 6 rfl rfl (fun _ _ _ h=>h) ?_ zh ?_|refine' tj 7 rfl rfl (fun _ _ _ h=>h) ?_ zh ?_|refine' tj 8 rfl rfl (fun _ _ _ h=>h) ?_ zh ?_|refine' tj 9 rfl rfl (fun _ _ _ h=>h) ?_ zh ?_
        rotate_left
        · intro wS hS;obtain⟨k0,k1,k2⟩:=hS;go_simp;try rfl
        try simp only[Act.put,zA,zB,zC,zD,zE,zF]
       iterate 10
        first|refine' tj 10 rfl rfl (fun _ _ _ h=>h) ?_ zh ?_|refine' tj 11 rfl rfl (fun _ _ _ h=>h) ?_ zh ?_|refine' tj 12 rfl rfl (fun _ _ _ h=>h) ?_ zh ?_|refine' tj 13 rfl rfl (fun _ _ _ h=>h) ?_ zh ?_|refine' tj 14 rfl rfl (fun _ _ _ h=>h) ?_ zh ?_|refine' tj 15 rfl rfl (fun _ _ _ h=>h) ?_ zh ?_|refine' tj 16 rfl rfl (fun _ _ _ h=>h) ?_ zh ?_|refine' tj 17 rfl rfl (fun _ _ _ h=>h) ?_ zh ?_|refine' tj 18 rfl rfl (fun _ _ _ h=>h) ?_ zh ?_|refine' tj 19 rfl rfl (fun _ _ _ h=>h) ?_ zh ?_
        rotate_left
        · intro wS hS;obtain⟨k0,k1,k2⟩:=hS;go_simp;try rfl
        try simp only[Act.put,zA,zB,zC,zD,zE,zF]
       iterate 5
        first|refine' tj 20 rfl rfl (fun _ _ _ h=>h) ?_ zh ?_|refine' tj 21 rfl rfl (fun _ _ _ h=>h) ?_ zh ?_|refine' tj 22 rfl rfl (fun _ _ _ h=>h) ?_ zh ?_|refine' tj 23 rfl rfl (fun _ _ _ h=>h) ?_ zh ?_|refine' tj 24 rfl rfl (fun _ _ _ h=>h) ?_ zh ?_
        rotate_left
        · intro wS hS;obtain⟨k0,k1,k2⟩:=hS;go_simp;try rfl
        try simp only[Act.put,zA,zB,zC,zD,zE,zF]
       refine wpAnyH_ready (rs:=[25]) (by kernel_rfl) (by simp) ?_
       refine AllReadyH.cons rfl (fun K hK=>?_) AllReadyH.nil
       go_simp
       refine CB.out.mono ?_
       rintro ex w5 ⟨rfl,hb5⟩
       have HB5:Hid (Below w3.heap.size w3 w5):=hid (HB.out.drew.trans (hb5.mono HB.out.size))
       have HW5:Hid (Below wr.heap.size wr w5):=hid ((Below.refl _ wr).drew.trans hb5)
       clear hb5 CB
       refine hK.out _ _ (KS.out _ HB5.out) ?_
       clear hK K zh
       intro zh
       try simp only[Act.put,zA,zB,zC,zD,zE,zF]
       refine' tk 26 rfl (fun _ _ _ h=>h) ?lb26 zh ?_
       case lb26=>intro wS hS;obtain⟨k0,k1,k2⟩:=hS;go_simp;try rfl
       try simp only[Act.put,zA,zB,zC,zD,zE,zF]
       refine wpAnyH_done (by kernel_rfl) ?_ _
       clear zh
       try simp only[Act.put,zA,zB,zC,zD,zE,zF]
       go_wp2
       go_roundw
       case rel=>exact ⟨i+1,by omega,by go_num,L,_,_,rfl,hid (by rw[HTK.out,HKS.out,List.append_nil]),hid (rowS_kept HO.out (fun y _ hl=>HW5.out.block y hl)),HB5⟩
       case measure=>simp [RowKit.intOf];omega
    · have q0:((m.nm.length:Int)==(n.nm.length:Int)+1)=false:=by simpa using hlq
      have HKS:Hid ((kidW n.nm m.nm).toList=[]):=hid (by rw[kidW,kidB,decide_eq_false (by omega)];rfl)
      clear hlq
      go_wp2_with fail
      refine wp_region_held_drew (S:=(fun w':World=>w'.cell? ⟨r,0,none⟩=some (.slice (some ⟨gv,0,none⟩) R.length vc)∧w'.cell? ⟨gv,i*11,none⟩=some (.slice na m.nm.length nc)∧w'.cell? ⟨w2.heap.size,0,none⟩=some (.slice la n.nm.length lc))) (by kernel_rfl) (KS.out _ HB.out.drew) (fun zh=>?_)
      iterate 10
       first|refine' tj 0 rfl rfl (fun _ _ _ h=>h) ?_ zh ?_|refine' tj 1 rfl rfl (fun _ _ _ h=>h) ?_ zh ?_|refine' tj 2 rfl rfl (fun _ _ _ h=>h) ?_ zh ?_|refine' tj 3 rfl rfl (fun _ _ _ h=>h) ?_ zh ?_|refine' tj 4 rfl rfl (fun _ _ _ h=>h) ?_ zh ?_|refine' tj 5 rfl rfl (fun _ _ _ h=>h) ?_ zh ?_|refine' tj 6 rfl rfl (fun _ _ _ h=>h) ?_ zh ?_|refine' tj 7 rfl rfl (fun _ _ _ h=>h) ?_ zh ?_|refine' tj 8 rfl rfl (fun _ _ _ h=>h) ?_ zh ?_|refine' tj 9 rfl rfl (fun _ _ _ h=>h) ?_ zh ?_
       rotate_left
       · intro wS hS;obtain⟨k0,k1,k2⟩:=hS;go_simp;try rfl
       try simp only[Act.put,zA,zB,zC,zD,zE,zF]
      iterate 5
       first|refine' tj 10 rfl rfl (fun _ _ _ h=>h) ?_ zh ?_|refine' tj 11 rfl rfl (fun _ _ _ h=>h) ?_ zh ?_|refine' tj 12 rfl rfl (fun _ _ _ h=>h) ?_ zh ?_|refine' tj 13 rfl rfl (fun _ _ _ h=>h) ?_ zh ?_|refine' tj 14 rfl rfl (fun _ _ _ h=>h) ?_ zh ?_
       rotate_left
       · intro wS hS;obtain⟨k0,k1,k2⟩:=hS;go_simp;try rfl
       try simp only[Act.put,zA,zB,zC,zD,zE,zF]
      refine tn 15 rfl rfl (fun _ _ _ h=>h) zh ?_
      try simp only[Act.put,zA,zB,zC,zD,zE,zF]
      refine tn 16 rfl rfl (fun _ _ _ h=>h) zh ?_
      try simp only[Act.put,zA,zB,zC,zD,zE,zF]
      refine tn 17 rfl rfl (fun _ _ _ h=>h) zh ?_
      try simp only[Act.put,zA,zB,zC,zD,zE,zF]
      refine tn 18 rfl rfl (fun _ _ _ h=>h) zh ?_
      try simp only[Act.put,zA,zB,zC,zD,zE,zF]
      refine tn 19 rfl rfl (fun _ _ _ h=>h) zh ?_
      try simp only[Act.put,zA,zB,zC,zD,zE,zF]
      refine tn 20 rfl rfl (fun _ _ _ h=>h) zh ?_
      try simp only[Act.put,zA,zB,zC,zD,zE,zF]
      refine tn 21 rfl rfl (fun _ _ _ h=>h) zh ?_
      try simp only[Act.put,zA,zB,zC,zD,zE,zF]
      refine tn 22 rfl rfl (fun _ _ _ h=>h) zh ?_
      try simp only[Act.put,zA,zB,zC,zD,zE,zF]
      refine tn 23 rfl rfl (fun _ _ _ h=>h) zh ?_
      try simp only[Act.put,zA,zB,zC,zD,zE,zF]
      refine tn 24 rfl rfl (fun _ _ _ h=>h) zh ?_
      try simp only[Act.put,zA,zB,zC,zD,zE,zF]
      refine tn 25 rfl rfl (fun _ _ _ h=>h) zh ?_
      try simp only[Act.put,zA,zB,zC,zD,zE,zF]
      refine' tk 26 rfl (fun _ _ _ h=>h) ?lc26 zh ?_
      case lc26=>intro wS hS;obtain⟨k0,k1,k2⟩:=hS;go_simp;try rfl
      try simp only[Act.put,zA,zB,zC,zD,zE,zF]
      refine wpAnyH_done (by kernel_rfl) ?_ _
      clear zh
      try simp only[Act.put,zA,zB,zC,zD,zE,zF]
      go_wp2
      go_roundw
      case rel=>exact ⟨i+1,by omega,by go_num,L,_,_,rfl,hid (by rw[HTK.out,HKS.out,List.append_nil]),hid (rowS_kept HO.out (fun y _ hl=>rfl)),hid HB.out.drew⟩
      case measure=>simp [RowKit.intOf];omega
  · obtain rfl:i=R.length:=by omega
    go_wp2
    go_ret2
    refine⟨_,by rw[HC.out];rfl,?_,HBW.out⟩
    have hnm:listN p F.L=L:=by rw[listN,HC.out,if_pos rfl,HNMS.out,HL.out,List.take_length]
    rw[hnm]
    exact row_mono HO.out HB03.out.size
end Go.Proofs.YtnmejonfdfdegaaGreatDoor.Sr
