import Derived.Test.YtnmejonfdfdegaaGreatDoorZPRtMake
import Derived.Test.YtnmejonfdfdegaaGreatDoorZPSrStat
import Derived.Test.YtnmejonfdfdegaaGreatDoorZPSrXattr
set_option linter.unusedSimpArgs false
set_option linter.unusedVariables false
set_option maxHeartbeats 8000000
set_option maxRecDepth 100000
namespace Go.Proofs.YtnmejonfdfdegaaGreatDoor.Sr
open Go.RowKit Go.Maps Go.WideMaps Rf Go.Proofs.YtnmejonfdfdegaaGreatDoor.Nm St
open Lib (hid)
theorem infoStR:(Tryz.prog.info? 44).map (·.size)=some 4:=by kernel_rfl
theorem builtStR:Tryz.prog.built 44 []=some #[.int .u8 0,.int .i64 0,.int .u64 0,.int .i64 0]:=by kernel_rfl
theorem rstat_any (B:Nat) (w:World) (r:Nat) (v:Value) (R:List RN) (F:Tr) (k:Nat) (p:List UInt8) (hT:Tabs w) (hp:p.length≤4611686018427387904) (hg:GoodF k F) (hk:k≤1000) (h:RTree B w r v R F):
 Calls Tryz.prog 11 #[ptr r,.string ⟨p.toArray⟩] w fun e w'=>e= .returned (.tuple #[.agg (statN p F.L).stat.toArray,.int .i64 (findE p F.L)])∧Below w.heap.size w w':=by
 obtain⟨W,hW⟩:∃ W,W=w.alloc (.cells #[.int .u8 0,.int .i64 0,.int .u64 0,.int .i64 0] 44):=⟨_,rfl⟩
 have hb0:Below w.heap.size w W:=by rw[hW];exact(Below.refl _ _).alloc (Nat.le_refl _) _
 have hq0:W.heap[w.heap.size]? =some (.cells #[.int .u8 0,.int .i64 0,.int .u64 0,.int .i64 0] 44):=by rw[hW];exact(MapKept.heap_alloc w _).1
 have hlen:R.length≤1000000:=by rw[h.len];have:=hg.len;omega
 have FI:=rfind_any B W r v R F p (hT.below hb0) hp hg.srt hlen (h.below hb0)
 have H:=hid h;have HB0:=hid hb0;have HA0:=hid hq0;have HW:=hid hW;have HG:=hid hg
 have HST:Hid (statN p F.L=match findN p F.L with|some e=>statT e F.L|none=>zeroS):=hid rfl
 generalize statN p F.L=RS at*
 obtain⟨va,vc,rfl⟩:=rowS_slice h.row
 clear h hb0 hq0 hW hT hg
 unfold ptr at*
 by_cases hf:findE p F.L=0
 case neg=>
  have hnone:findN p F.L=none:=by
   rw[findE] at hf;rw[findN]
   split
   · next h0=>
     rw[if_pos h0] at hf
     cases hgt:getT (splitL p) F.L with
     |none=>rfl
     |some e=>rw [hgt] at hf;exact absurd rfl hf
   · rfl
  have hS:RS=zeroS:=by rw[HST.out,hnone]
  subst hS
  rw[rfind_no hf] at FI
  have FI:=hid FI
  obtain⟨c,hc⟩:∃ c,c=findE p F.L:=⟨_,rfl⟩
  have HCF:=hid hc
  rw[←hc] at FI hf ⊢
  have hb:(c==0)=false:=by rw[beq_eq_false_iff_ne];exact hf
  have hb2:(c !=0)=true:=by rw[bne,hb];rfl
  clear hf HST hc hnone
  go_enter Tryz.func11,Tryz.ntmps11
  go_wp2_with fail
  change Calls _ _ _ (w.alloc (.cells #[.int .u8 0,.int .i64 0,.int .u64 0,.int .i64 0] 44)) _
  rw[←HW.out]
  refine FI.out.mono ?_
  rintro ex w1 ⟨rfl,hb1⟩
  have HB:Hid (Below w.heap.size w w1):=hid (HB0.out.trans (hb1.mono HB0.out.size))
  have HA1:=hid ((hb1.block _ (lt_of_heap HA0.out)).trans HA0.out)
  clear FI hb1 HB0 HA0 HW
  go_wp2_with (first
   |(refine Sh.wpList_build_is rfl 44 _ rfl #[.int .u8 0,.int .i64 0,.int .u64 0,.int .i64 0] builtStR ?_)
   |(refine Sh.wpList_store_at HA1.out rfl 44 (.tmp 4) (.tmp 18) rfl #[.int .u8 0,.int .i64 0,.int .u64 0,.int .i64 0] rfl rfl infoStR rfl (oneSt _ _ _ _ rfl rfl rfl rfl) ?_
     intro w3 hq3 ht3 hs3
     have HQ3:=hid hq3;have HT3:=hid ht3
     clear hq3 ht3 hs3))
  have hld:=run_loadVar_row (P:=Tryz.prog) w3 w.heap.size _ 44 #[.int .u8 0,.int .i64 0,.int .u64 0,.int .i64 0] _ _ HQ3.out Tryz.underlying44 rfl infoStR
  refine bodyPost_ret (v:= .tuple #[.agg #[.int .u8 0,.int .i64 0,.int .u64 0,.int .i64 0],.int .i64 c]) ?_ rfl ?_
  · rw[results_cell_tmp (fn:=Tryz.f11) rfl]
    show((asAddr (.pointer (some ⟨w.heap.size,0,none⟩))).run Tryz.prog _).andThen _=_
    simp only[asAddr,Sem.run_pure,Result.andThen_ok,hld]
    rfl
  · exact⟨rfl,HB.out.trans (HT3.out.below (by simp) HB.out.size)⟩
 obtain⟨i,e,hfi,hi,hen,hg',hs0⟩:=rfind_yes HG.out.srt hf
 obtain⟨n,hn,hne⟩:=H.out.get hi
 have hil:i < R.length:=(List.getElem?_eq_some_iff.1 hn).1
 have hilt:(i:Int) < (R.length:Int):=by omega
 have HS:Hid (RS=statT n.te F.L):=hid (by rw[HST.out,findN,if_pos hs0,hg',hne])
 have HN:=hid hn
 have hnode:1≤n.at_.node∧n.at_.node≤3:=by
  have:=chkA_parts (HG.out.att n.te (List.mem_of_getElem? (H.out.at_ hn)))
  exact⟨this.1,this.2.1⟩
 have HD16:=hid (HG.out.deep n.te (List.mem_of_getElem? (H.out.at_ hn)))
 rw[hfi,hf] at FI
 rw[hf]
 have FI:=hid FI
 obtain⟨gv,cap,hv,hgv⟩:=H.out.form (by omega)
 injection hv with e1 e2 e3
 subst e1 e3
 have HE:=hid (fun (w2:World) (hb:Below w.heap.size w w2)=>(H.out.below hb).ent HN.out)
 have HXK:=hid (fun (w2:World) (hb:Below w.heap.size w w2)=>H.out.below hb)
 have C0:Hid (∀ w2,Below w.heap.size w w2→w2.cell? ⟨r,0,none⟩=some (.slice (some ⟨gv,0,none⟩) R.length vc)):=hid (fun w2 hb=>cell_of_heap (H.out.below hb).book)
 clear hf hfi hi hen hg' hs0 hn hne HST e2
 go_enter Tryz.func11,Tryz.ntmps11
 go_wp2_with fail
 change Calls _ _ _ (w.alloc (.cells #[.int .u8 0,.int .i64 0,.int .u64 0,.int .i64 0] 44)) _
 rw[←HW.out]
 refine FI.out.mono ?_
 rintro ex w1 ⟨rfl,hb1⟩
 have HB:Hid (Below w.heap.size w w1):=hid (HB0.out.trans (hb1.mono HB0.out.size))
 have HA1:=hid ((hb1.block _ (lt_of_heap HA0.out)).trans HA0.out)
 have c0:=C0.out w1 HB.out
 have HENT:=hid (HE.out w1 HB.out)
 clear FI hb1 HB0 HA0 HW
 have ones:=rn_ones (strs_one (HXK.out w1 HB.out|>.node n (List.mem_of_getElem? HN.out)).1.strs) (xs_one (HXK.out w1 HB.out|>.node n (List.mem_of_getElem? HN.out)).2)
 have HON:Hid (n.cells.toArray.all (·.oneCell')=true):=hid (all_oneCell_toArray ones)
 have HAL:Hid ((w1.alloc (.cells #[.slice none 0 0,.int .u8 0,.int .u32 0,.int .u32 0,.int .u32 0,.int .i64 0,.string ⟨#[]⟩,.slice none 0 0,.string ⟨#[]⟩,.int .u64 0,.int .i64 0] RnT)).heap[w1.heap.size]? =some (.cells #[.slice none 0 0,.int .u8 0,.int .u32 0,.int .u32 0,.int .u32 0,.int .i64 0,.string ⟨#[]⟩,.slice none 0 0,.string ⟨#[]⟩,.int .u64 0,.int .i64 0] RnT)):=hid (MapKept.heap_alloc w1 _).1
 have HIN1:=hid (infoRn1 n)
 clear ones
 go_upto_region 5 with(first
  |(refine wpList_load_mid rfl _ _ rfl gv (i*11) rfl n.cells _ HENT.out Tryz.underlying86 rfl (infoRn1 n) ?_)
  |(refine Sh.wpList_store_at HAL.out rfl RnT (.tmp 8) (.tmp 26) rfl n.cells.toArray rfl rfl HIN1.out rfl HON.out ?_
    intro w2 hq2 ht2 hs2
    have HQ2:=hid hq2
    have HB2:Hid (Below w1.heap.size w1 w2):=hid (((Below.refl w1.heap.size w1).alloc (Nat.le_refl _) _).trans (ht2.below (by simp) (by rw[one_size];omega)))
    have HS2:Hid (w2.heap.size=w1.heap.size+1):=hid (by rw[hs2,one_size])
    clear hq2 ht2 hs2))
 have hq2:=HQ2.out
 have d0:w2.cell? ⟨w1.heap.size,1,none⟩=some (.int .u8 (n.at_.node:Int)):=cell_of_heap hq2
 have d1:w2.cell? ⟨w1.heap.size,8,none⟩=some (.string ⟨n.data.toArray⟩):=cell_of_heap hq2
 have d2:w2.cell? ⟨w1.heap.size,9,none⟩=some (.int .u64 (n.ino:Int)):=cell_of_heap hq2
 have d3:w2.cell? ⟨w1.heap.size,10,none⟩=some (.int .i64 n.tick):=cell_of_heap hq2
 clear hq2
 have hds:(⟨n.data.toArray⟩:ByteArray).size=n.data.length:=rfl
 go_upto_region 6 with(fail)
 obtain⟨W5,hW5⟩:∃ W5,W5=w2.alloc (.cells #[.int .u8 (n.at_.node:Int),.int .i64 (n.data.length:Int),.int .u64 (n.ino:Int),.int .i64 n.tick] 44):=⟨_,rfl⟩
 have hq5:W5.heap[w2.heap.size]? =some (.cells #[.int .u8 (n.at_.node:Int),.int .i64 (n.data.length:Int),.int .u64 (n.ino:Int),.int .i64 n.tick] 44):=by rw[hW5];exact(MapKept.heap_alloc w2 _).1
 have hqn:W5.heap[w1.heap.size]? =some (.cells n.cells.toArray RnT):=by rw[hW5];exact at_alloc HQ2.out _
 have hb5:Below w1.heap.size w1 W5:=by rw[hW5];exact HB2.out.alloc HB2.out.size _
 have hbw5:Below w.heap.size w W5:=HB.out.trans (hb5.mono HB.out.size)
 have ha5:W5.heap[w.heap.size]? =some (.cells #[.int .u8 0,.int .i64 0,.int .u64 0,.int .i64 0] 44):=(hb5.block _ (lt_of_heap HA1.out)).trans HA1.out
 have hne5:w.heap.size≠w2.heap.size:=by have h1:=lt_of_heap HA1.out;have h2:=HB2.out.size;omega
 have HQ5:=hid hq5;have HQN:=hid hqn;have HBW5:=hid hbw5;have HA5:=hid ha5;have HNE5:=hid hne5
 have d0:W5.cell? ⟨w1.heap.size,1,none⟩=some (.int .u8 (n.at_.node:Int)):=cell_of_heap hqn
 rw[←hW5]
 clear hq5 hb5 hbw5 ha5 hW5 hne5 HENT c0 d1 d2 d3
 by_cases n2:n.at_.node=2
 · have HSS:Hid (RS.stat=[.int .u8 (n.at_.node:Int),.int .i64 ((kidsT F.L n.nm).length:Int),.int .u64 (n.ino:Int),.int .i64 n.tick]):=hid (by
    rw[HS.out]
    show [_,Value.int .i64 (sizeT n.te F.L),_,_]=_
    rw[sizeT,if_neg (show ¬ n.te.at_.node=1 from by show ¬ n.at_.node=1;omega),if_pos (show n.te.at_.node=2 from n2)];rfl)
   have q1:((n.at_.node:Int)==2)=true:=by rw[n2];rfl
   have q2:((n.at_.node:Int)==3)=false:=by rw[n2];rfl
   have HP5:=hid ((HXK.out W5 HBW5.out).node n (List.mem_of_getElem? HN.out)).1
   obtain⟨na,nc,hnv⟩:=rowS_slice HP5.out.row
   have KD:=rkids_any B W5 r _ R F n.nv n.nm HP5.out.strs (by have:=HD16.out;exact Nat.le_trans this (by decide)) hlen (HXK.out W5 HBW5.out)
   rw[hnv] at KD
   have KD:=hid KD
   unfold ptr at KD
   have dn:W5.cell? ⟨w1.heap.size,0,none⟩=some (.slice na n.nm.length nc):=by rw[←hnv];exact cell_of_heap hqn
   clear n2 hnode hnv hqn
   generalize (kidsT F.L n.nm).length=kl at*
   go_wp2_with fail
   refine KD.out.mono ?_
   rintro ex w6 ⟨rfl,hb6⟩
   have hq6:=(hb6.block _ (lt_of_heap HQ5.out)).trans HQ5.out
   have ha6:=(hb6.block _ (lt_of_heap HA5.out)).trans HA5.out
   have HA6:Hid ((w6.setCell ⟨w2.heap.size,1,none⟩ (.int .i64 (kl:Int))).heap[w.heap.size]? =some (.cells #[.int .u8 0,.int .i64 0,.int .u64 0,.int .i64 0] 44)):=hid ((Below.heap_setCell _ _ _ _ HNE5.out).trans ha6)
   have HQ6:Hid ((w6.setCell ⟨w2.heap.size,1,none⟩ (.int .i64 (kl:Int))).heap[w2.heap.size]? =some (.cells #[.int .u8 (n.at_.node:Int),.int .i64 (kl:Int),.int .u64 (n.ino:Int),.int .i64 n.tick] 44)):=hid (by rw[setCell_heap _ _ _ _ _ _ hq6];rfl)
   have HB6:Hid (Below w.heap.size w (w6.setCell ⟨w2.heap.size,1,none⟩ (.int .i64 (kl:Int)))):=hid ((HBW5.out.trans (hb6.mono HBW5.out.size)).setCell (by have h1:=HB.out.size;have h2:=HB2.out.size;show w.heap.size≤w2.heap.size;omega) _)
   have d06:w6.cell? ⟨w1.heap.size,1,none⟩=some (.int .u8 (n.at_.node:Int)):=cell_of_heap ((hb6.block _ (lt_of_heap HQN.out)).trans HQN.out)
   have x6:w6.cell? ⟨w2.heap.size,1,none⟩=some (.int .i64 (n.data.length:Int)):=cell_of_heap hq6
   have f6:w6.frozen? ⟨w2.heap.size,1,none⟩=false:=frozen_of_heap hq6
   have d07:(w6.setCell ⟨w2.heap.size,1,none⟩ (.int .i64 (kl:Int))).cell? ⟨w1.heap.size,1,none⟩=some (.int .u8 (n.at_.node:Int)):=(World.cell?_of_block (a:=⟨w1.heap.size,1,none⟩) (Below.heap_setCell _ _ _ _ (by have h2:=HS2.out;show w1.heap.size≠w2.heap.size;omega))).trans d06
   clear hq6 ha6 hb6 KD dn d0
   go_wp2_with (first
    |(refine Sh.wpList_load_at (T:=44) (cs:= #[.int .u8 (n.at_.node:Int),.int .i64 (kl:Int),.int .u64 (n.ino:Int),.int .i64 n.tick]) HQ6.out rfl 44 (.tmp 9) rfl rfl _ Tryz.underlying44 rfl infoStR ?_)
    |(refine Sh.wpList_store_at HA6.out rfl 44 (.tmp 4) (.tmp 56) rfl #[.int .u8 (n.at_.node:Int),.int .i64 (kl:Int),.int .u64 (n.ino:Int),.int .i64 n.tick] rfl rfl infoStR rfl (oneSt _ _ _ _ rfl rfl rfl rfl) ?_
      intro w9 hq9 ht9 hs9
      have HQ9:=hid hq9;have HT9:=hid ht9
      clear hq9 ht9 hs9))
   have hld:=run_loadVar_row (P:=Tryz.prog) w9 w.heap.size _ 44 #[.int .u8 (n.at_.node:Int),.int .i64 (kl:Int),.int .u64 (n.ino:Int),.int .i64 n.tick] _ _ HQ9.out Tryz.underlying44 rfl infoStR
   refine bodyPost_ret (v:= .tuple #[.agg #[.int .u8 (n.at_.node:Int),.int .i64 (kl:Int),.int .u64 (n.ino:Int),.int .i64 n.tick],.int .i64 0]) ?_ rfl ?_
   · rw[results_cell_tmp (fn:=Tryz.f11) rfl]
     show((asAddr (.pointer (some ⟨w.heap.size,0,none⟩))).run Tryz.prog _).andThen _=_
     simp only[asAddr,Sem.run_pure,Result.andThen_ok,hld]
     rfl
   · exact⟨by rw[HSS.out],(HB6.out).trans (HT9.out.below (by simp) (HB6.out).size)⟩
 by_cases n3:n.at_.node=3
 · have HSS:Hid (RS.stat=[.int .u8 (n.at_.node:Int),.int .i64 (n.at_.target.length:Int),.int .u64 (n.ino:Int),.int .i64 n.tick]):=hid (by
    rw[HS.out]
    show [_,Value.int .i64 (sizeT n.te F.L),_,_]=_
    rw[sizeT,if_neg (show ¬ n.te.at_.node=1 from by show ¬ n.at_.node=1;omega),if_neg (show ¬ n.te.at_.node=2 from n2),if_pos (show n.te.at_.node=3 from n3)];rfl)
   have q1:((n.at_.node:Int)==2)=false:=by rw[n3];rfl
   have q2:((n.at_.node:Int)==3)=true:=by rw[n3];rfl
   have dt:W5.cell? ⟨w1.heap.size,6,none⟩=some (.string ⟨n.at_.target.toArray⟩):=cell_of_heap hqn
   have hts:(⟨n.at_.target.toArray⟩:ByteArray).size=n.at_.target.length:=rfl
   have HA6:Hid ((W5.setCell ⟨w2.heap.size,1,none⟩ (.int .i64 (n.at_.target.length:Int))).heap[w.heap.size]? =some (.cells #[.int .u8 0,.int .i64 0,.int .u64 0,.int .i64 0] 44)):=hid ((Below.heap_setCell _ _ _ _ HNE5.out).trans HA5.out)
   have HQ6:Hid ((W5.setCell ⟨w2.heap.size,1,none⟩ (.int .i64 (n.at_.target.length:Int))).heap[w2.heap.size]? =some (.cells #[.int .u8 (n.at_.node:Int),.int .i64 (n.at_.target.length:Int),.int .u64 (n.ino:Int),.int .i64 n.tick] 44)):=hid (by rw[setCell_heap _ _ _ _ _ _ HQ5.out];rfl)
   have HB6:Hid (Below w.heap.size w (W5.setCell ⟨w2.heap.size,1,none⟩ (.int .i64 (n.at_.target.length:Int)))):=hid (HBW5.out.setCell (by have h1:=HB.out.size;have h2:=HB2.out.size;show w.heap.size≤w2.heap.size;omega) _)
   have x6:W5.cell? ⟨w2.heap.size,1,none⟩=some (.int .i64 (n.data.length:Int)):=cell_of_heap HQ5.out
   have f6:W5.frozen? ⟨w2.heap.size,1,none⟩=false:=frozen_of_heap HQ5.out
   clear n2 n3 hnode hqn
   go_wp2_with (first
    |(refine Sh.wpList_load_at (T:=44) (cs:= #[.int .u8 (n.at_.node:Int),.int .i64 (n.at_.target.length:Int),.int .u64 (n.ino:Int),.int .i64 n.tick]) HQ6.out rfl 44 (.tmp 9) rfl rfl _ Tryz.underlying44 rfl infoStR ?_)
    |(refine Sh.wpList_store_at HA6.out rfl 44 (.tmp 4) (.tmp 56) rfl #[.int .u8 (n.at_.node:Int),.int .i64 (n.at_.target.length:Int),.int .u64 (n.ino:Int),.int .i64 n.tick] rfl rfl infoStR rfl (oneSt _ _ _ _ rfl rfl rfl rfl) ?_
      intro w9 hq9 ht9 hs9
      have HQ9:=hid hq9;have HT9:=hid ht9
      clear hq9 ht9 hs9))
   have hld:=run_loadVar_row (P:=Tryz.prog) w9 w.heap.size _ 44 #[.int .u8 (n.at_.node:Int),.int .i64 (n.at_.target.length:Int),.int .u64 (n.ino:Int),.int .i64 n.tick] _ _ HQ9.out Tryz.underlying44 rfl infoStR
   refine bodyPost_ret (v:= .tuple #[.agg #[.int .u8 (n.at_.node:Int),.int .i64 (n.at_.target.length:Int),.int .u64 (n.ino:Int),.int .i64 n.tick],.int .i64 0]) ?_ rfl ?_
   · rw[results_cell_tmp (fn:=Tryz.f11) rfl]
     show((asAddr (.pointer (some ⟨w.heap.size,0,none⟩))).run Tryz.prog _).andThen _=_
     simp only[asAddr,Sem.run_pure,Result.andThen_ok,hld]
     rfl
   · exact⟨by rw[HSS.out],(HB6.out).trans (HT9.out.below (by simp) (HB6.out).size)⟩
 have HSS:Hid (RS.stat=[.int .u8 (n.at_.node:Int),.int .i64 (n.data.length:Int),.int .u64 (n.ino:Int),.int .i64 n.tick]):=hid (by
  rw[HS.out]
  show [_,Value.int .i64 (sizeT n.te F.L),_,_]=_
  rw[sizeT,if_pos (show n.te.at_.node=1 from by show n.at_.node=1;omega)];rfl)
 have q1:((n.at_.node:Int)==2)=false:=by rw[beq_eq_false_iff_ne];omega
 have q2:((n.at_.node:Int)==3)=false:=by rw[beq_eq_false_iff_ne];omega
 clear n2 n3 hnode hqn
 go_wp2_with (first
  |(refine Sh.wpList_load_at (T:=44) (cs:= #[.int .u8 (n.at_.node:Int),.int .i64 (n.data.length:Int),.int .u64 (n.ino:Int),.int .i64 n.tick]) HQ5.out rfl 44 (.tmp 9) rfl rfl _ Tryz.underlying44 rfl infoStR ?_)
  |(refine Sh.wpList_store_at HA5.out rfl 44 (.tmp 4) (.tmp 56) rfl #[.int .u8 (n.at_.node:Int),.int .i64 (n.data.length:Int),.int .u64 (n.ino:Int),.int .i64 n.tick] rfl rfl infoStR rfl (oneSt _ _ _ _ rfl rfl rfl rfl) ?_
    intro w9 hq9 ht9 hs9
    have HQ9:=hid hq9;have HT9:=hid ht9
    clear hq9 ht9 hs9))
 have hld:=run_loadVar_row (P:=Tryz.prog) w9 w.heap.size _ 44 #[.int .u8 (n.at_.node:Int),.int .i64 (n.data.length:Int),.int .u64 (n.ino:Int),.int .i64 n.tick] _ _ HQ9.out Tryz.underlying44 rfl infoStR
 refine bodyPost_ret (v:= .tuple #[.agg #[.int .u8 (n.at_.node:Int),.int .i64 (n.data.length:Int),.int .u64 (n.ino:Int),.int .i64 n.tick],.int .i64 0]) ?_ rfl ?_
 · rw[results_cell_tmp (fn:=Tryz.f11) rfl]
   show((asAddr (.pointer (some ⟨w.heap.size,0,none⟩))).run Tryz.prog _).andThen _=_
   simp only[asAddr,Sem.run_pure,Result.andThen_ok,hld]
   rfl
 · exact⟨by rw[HSS.out],(HBW5.out).trans (HT9.out.below (by simp) (HBW5.out).size)⟩
end Go.Proofs.YtnmejonfdfdegaaGreatDoor.Sr
