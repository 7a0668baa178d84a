import Derived.Test.YtnmejonfdfdegaaGreatDoorZPZz
import Derived.Test.YtnmejonfdfdegaaGreatDoorZPRtLook
import Derived.Test.YtnmejonfdfdegaaGreatDoorZPSrOwn
import Derived.Test.YtnmejonfdfdegaaGreatDoorZPNmWhole
set_option linter.unusedSimpArgs false
set_option linter.unusedVariables false
set_option maxHeartbeats 32000000
set_option maxRecDepth 100000
namespace Go.Proofs.YtnmejonfdfdegaaGreatDoor.Sr
open Go.RowKit Go.Maps Go.WideMaps Rf Go.Proofs.YtnmejonfdfdegaaGreatDoor.Nm St
open Lib (hid)
theorem infoXaR1 (x:List UInt8×List UInt8):(Tryz.prog.info? 147).map (·.size)=some (#[Value.string ⟨x.1.toArray⟩,Value.string ⟨x.2.toArray⟩]:Array Value).size:=by show _=some 2;kernel_rfl
theorem chk_lt {s:List UInt8} (h:chk s=true):lt [] s=true:=by
 cases s with
 |nil=>
  have h0:=runes_length []
  rw[runes_nil,List.length_nil] at h0
  rw[chk,lenFine,←h0] at h
  simp at h
 |cons a r=>rfl
theorem rchk_any (w:World) (A:XA) (v:Value) (hT:Tabs w) (h:XsAt w v A.xs):
 Calls Tryz.prog 69 #[.agg (A.cells v).toArray] w fun e w'=>e= .returned (.int .i64 (chkAE A))∧Below w.heap.size w w':=by
 obtain⟨W,hW⟩:∃ W,W=w.alloc (.cells (A.cells v).toArray AtR):=⟨_,rfl⟩
 have hb0:Below w.heap.size w W:=by rw[hW];exact(Below.refl _ _).alloc (Nat.le_refl _) _
 have hq0:W.heap[w.heap.size]? =some (.cells (A.cells v).toArray AtR):=by rw[hW];exact(MapKept.heap_alloc w _).1
 have hX:=h.kept hb0.size (fun b hb=>hb0.block b (h.lt b hb))
 have HT:=hid (hT.below hb0)
 obtain⟨va,vc,rfl,hxm,hxl,hxc⟩:=hX
 have HXL:=hid hxl;have HXC:=hid hxc;have HB0:=hid hb0;have HW:=hid hW
 have C:Hid (∀ w':World,Below W.heap.size W w'→w'.heap[w.heap.size]? =some (.cells (A.cells (.slice va A.xs.length vc)).toArray AtR)):=hid (fun w' hb=>(hb.block _ (lt_of_heap hq0)).trans hq0)
 have k0:(w.alloc (.cells (A.cells (.slice va A.xs.length vc)).toArray AtR)).cell? ⟨w.heap.size,0,none⟩=some (.int .u8 (A.node:Int)):=by rw[←hW];exact cell_of_heap hq0
 have k1:(w.alloc (.cells (A.cells (.slice va A.xs.length vc)).toArray AtR)).cell? ⟨w.heap.size,1,none⟩=some (.int .u32 (A.mode:Int)):=by rw[←hW];exact cell_of_heap hq0
 have k4:(w.alloc (.cells (A.cells (.slice va A.xs.length vc)).toArray AtR)).cell? ⟨w.heap.size,4,none⟩=some (.int .i64 A.mtime):=by rw[←hW];exact cell_of_heap hq0
 have k5:(w.alloc (.cells (A.cells (.slice va A.xs.length vc)).toArray AtR)).cell? ⟨w.heap.size,5,none⟩=some (.string ⟨A.target.toArray⟩):=by rw[←hW];exact cell_of_heap hq0
 have k6:(w.alloc (.cells (A.cells (.slice va A.xs.length vc)).toArray AtR)).cell? ⟨w.heap.size,6,none⟩=some (.slice va A.xs.length vc):=by rw[←hW];exact cell_of_heap hq0
 have hts:(⟨A.target.toArray⟩:ByteArray).size=A.target.length:=rfl
 have HCA:Hid (chkAE A=if chkA A then 0 else 1):=hid rfl
 have HCB:Hid (chkA A=(decide (1≤A.node∧A.node≤3∧A.mode≤4095∧0≤A.mtime∧A.mtime≤1099511627776) && (decide (A.node=3 ↔ A.target≠[]) && (decide (A.target.length≤1024) && (decide (0 ∉ A.target) && (decide (A.xs.length≤16) && xsFine [] A.xs)))))):=hid rfl
 generalize chkAE A=R at*
 generalize chkA A=RB at*
 unfold maxLen at hxm
 clear hb0 hq0 hxl hxc h hW hT
 have NO:Hid (RB=false→R=1):=hid (fun h=>by rw[HCA.out,h];rfl)
 by_cases a1:1≤A.node
 case neg=>
  have hr:R=1:=NO.out (by rw[HCB.out,decide_eq_false (by omega),Bool.false_and])
  have ba1:(A.node:Int) < 1:=by omega
  subst hr
  clear HCA HCB NO a1
  go_enter Tryz.func69,Tryz.ntmps69
  go_wp2
  go_ret
  exact⟨rfl,(Below.refl _ _).alloc (Nat.le_refl _) _⟩
 have ba1:¬ (A.node:Int) < 1:=by omega
 by_cases a2:A.node≤3
 case neg=>
  have hr:R=1:=NO.out (by rw[HCB.out,decide_eq_false (by omega),Bool.false_and])
  have ba2:(3:Int) < (A.node:Int):=by omega
  subst hr
  clear HCA HCB NO a1 a2
  go_enter Tryz.func69,Tryz.ntmps69
  go_wp2
  go_ret
  exact⟨rfl,(Below.refl _ _).alloc (Nat.le_refl _) _⟩
 have ba2:¬ (3:Int) < (A.node:Int):=by omega
 by_cases a3:A.mode≤4095
 case neg=>
  have hr:R=1:=NO.out (by rw[HCB.out,decide_eq_false (by omega),Bool.false_and])
  have ba3:(4095:Int) < (A.mode:Int):=by omega
  subst hr
  clear HCA HCB NO a1 a2 a3
  go_enter Tryz.func69,Tryz.ntmps69
  go_wp2
  go_ret
  exact⟨rfl,(Below.refl _ _).alloc (Nat.le_refl _) _⟩
 have ba3:¬ (4095:Int) < (A.mode:Int):=by omega
 by_cases a4:0≤A.mtime
 case neg=>
  have hr:R=1:=NO.out (by rw[HCB.out,decide_eq_false (by omega),Bool.false_and])
  have ba4:A.mtime < 0:=by omega
  subst hr
  clear HCA HCB NO a1 a2 a3 a4
  go_enter Tryz.func69,Tryz.ntmps69
  go_wp2
  go_ret
  exact⟨rfl,(Below.refl _ _).alloc (Nat.le_refl _) _⟩
 have ba4:¬ A.mtime < 0:=by omega
 by_cases a5:A.mtime≤1099511627776
 case neg=>
  have hr:R=1:=NO.out (by rw[HCB.out,decide_eq_false (by omega),Bool.false_and])
  have ba5:1099511627776 < A.mtime:=by omega
  subst hr
  clear HCA HCB NO a1 a2 a3 a4 a5
  go_enter Tryz.func69,Tryz.ntmps69
  go_wp2
  go_ret
  exact⟨rfl,(Below.refl _ _).alloc (Nat.le_refl _) _⟩
 have ba5:¬ 1099511627776 < A.mtime:=by omega
 by_cases a9:A.xs.length≤16
 case neg=>
  have hr:R=1:=NO.out (by rw[HCB.out,decide_eq_false a9];simp only[Bool.false_and,Bool.and_false])
  have b9:(16:Int) < (A.xs.length:Int):=by omega
  subst hr
  clear HCA HCB NO a1 a2 a3 a4 a5 a9
  go_enter Tryz.func69,Tryz.ntmps69
  go_wp2
  go_ret
  exact⟨rfl,(Below.refl _ _).alloc (Nat.le_refl _) _⟩
 have b9:¬ (16:Int) < (A.xs.length:Int):=by omega
 have HCC:Hid (RB=(decide (A.node=3 ↔ A.target≠[]) && (decide (A.target.length≤1024) && (decide (0 ∉ A.target) && xsFine [] A.xs)))):=hid (by rw[HCB.out,decide_eq_true ⟨a1,a2,a3,a4,a5⟩,decide_eq_true a9,Bool.true_and,Bool.true_and])
 clear HCB a1 a2 a3 a4 a5 a9
 obtain⟨n3,hn3⟩:∃ n3,n3=((A.node:Int)==3):=⟨_,rfl⟩
 obtain⟨te,hte⟩:∃ te,te=(A.target==[]):=⟨_,rfl⟩
 have HL:Hid (decide (A.node=3 ↔ A.target≠[])=(n3 !=te)):=hid (by
  rw[hn3,hte,Bool.eq_iff_iff,decide_eq_true_iff]
  by_cases x:A.node=3
  · have:((A.node:Int)==3)=true:=by rw[beq_iff_eq];omega
    rw[this]
    cases A.target <;> simp[x]
  · have:((A.node:Int)==3)=false:=by rw[beq_eq_false_iff_ne];omega
    rw[this]
    cases A.target <;> simp[x])
 have e3:=hn3.symm
 have e5:=hte.symm
 have e4:((A.node:Int) !=3)= !n3:=by rw[bne,e3]
 have e6:(A.target !=[])= !te:=by rw[bne,e5]
 clear hn3 hte
 by_cases a6:n3=te
 · have hr:R=1:=NO.out (by rw[HCC.out,HL.out,a6];simp)
   subst a6 hr
   clear HCA HCC NO HL
   cases n3 with
   |true=>
    rw[Bool.not_true] at e4 e6
    go_enter Tryz.func69,Tryz.ntmps69
    go_wp2
    go_ret
    exact⟨rfl,(Below.refl _ _).alloc (Nat.le_refl _) _⟩
   |false=>
    rw[Bool.not_false] at e4 e6
    go_enter Tryz.func69,Tryz.ntmps69
    go_wp2
    go_ret
    exact⟨rfl,(Below.refl _ _).alloc (Nat.le_refl _) _⟩
 have HCD:Hid (RB=(decide (A.target.length≤1024) && (decide (0 ∉ A.target) && xsFine [] A.xs))):=hid (by rw[HCC.out,HL.out,bne_iff_ne.2 a6,Bool.true_and])
 obtain⟨rfl⟩:te= !n3:=by cases te <;> cases n3 <;> simp at a6 ⊢
 clear HCC HL a6
 have HTN:Hid (n3=false→A.target=[]):=hid (fun h=>by rw[h] at e5;simpa using e5)
 by_cases a7:A.target.length≤1024
 case neg=>
  have hr:R=1:=NO.out (by rw[HCD.out,decide_eq_false a7,Bool.false_and])
  have b7:(1024:Int) < (A.target.length:Int):=by omega
  subst hr
  clear HCA HCD NO
  cases n3 with
  |false=>rw [HTN.out rfl] at a7;exact absurd (Nat.zero_le _) a7
  |true=>
   clear a7
   rw[Bool.not_true] at e4
   rw[Bool.not_true,Bool.not_false] at e6
   rw[Bool.not_true] at e5
   go_enter Tryz.func69,Tryz.ntmps69
   go_wp2
   go_ret
   exact⟨rfl,(Below.refl _ _).alloc (Nat.le_refl _) _⟩
 have b7:¬ (1024:Int) < (A.target.length:Int):=by omega
 have HCE:Hid (RB=(decide (0 ∉ A.target) && xsFine [] A.xs)):=hid (by rw[HCD.out,decide_eq_true a7,Bool.true_and])
 clear HCD
 have CN:=hid (fun (s:List UInt8) w (h:Tabs w)=>ref_check ⟨s.toArray⟩ w h)
 have HBW:Hid (Below w.heap.size w W):=HB0
 cases n3 with
 |true=>
  clear a7
  rw[Bool.not_true] at e4 e5
  rw[Bool.not_true,Bool.not_false] at e6
  go_enter Tryz.func69,Tryz.ntmps69
  go_wp2
  rw[←HW.out]
  go_loopw [3] (fun v3 wr=>∃ i:Nat,i≤A.target.length∧v3= .int .i64 (i:Int)∧Hid (0 ∉ A.target.take i)∧wr=W) (fun v3 _=>A.target.length - (RowKit.intOf v3).toNat)
  case atStart=>exact ⟨0,Nat.zero_le _,rfl,hid (by simp),rfl⟩
  case round=>
   obtain⟨i,hi,rfl,HZ,hwr⟩:=hrel
   replace hwr:=hwr.symm
   subst hwr
   rw[←HW.out] at k5 k6
   by_cases hil:(i:Int) < (A.target.length:Int)
   · have hi2:i < A.target.length:=by omega
     obtain⟨c,hc⟩:∃ c,A.target[i]? =some c:=⟨_,List.getElem?_eq_getElem hi2⟩
     have HC:=hid hc
     have hlt:i < (⟨A.target.toArray⟩:ByteArray).size:=hi2
     have hgb:(⟨A.target.toArray⟩:ByteArray)[i]'hlt=c:=by
      have h1:A.target[i]=c:=by rw[List.getElem?_eq_getElem hi2] at hc;exact Option.some.inj hc
      rw[←h1];rfl
     by_cases hz:c=0
     · subst hz
       have hr:R=1:=NO.out (by rw[HCE.out,decide_eq_false (by simpa using List.mem_of_getElem? hc),Bool.false_and])
       subst hr
       have hz2:((((⟨A.target.toArray⟩:ByteArray)[i]'hlt).toNat:Int)==0)=true:=by rw[hgb];rfl
       clear HCA HCE NO hc hgb
       go_wp2
       go_ret
       exact⟨rfl,HBW.out⟩
     · have hz1:(c.toNat:Int)≠0:=fun h=>hz (by have:c.toNat=0:=by omega
                                               exact UInt8.toNat_inj.1 this)
       have hz2:((((⟨A.target.toArray⟩:ByteArray)[i]'hlt).toNat:Int)==0)=false:=by rw[hgb,beq_eq_false_iff_ne];exact hz1
       have HN:=hid hz
       clear hz hc hz1 hgb
       go_wp2
       go_roundw
       case rel=>
        refine⟨i+1,by omega,by go_num,hid (fun hm=>?_),trivial⟩
        rw[List.take_add_one,HC.out,List.mem_append] at hm
        rcases hm with hm|hm
        · exact HZ.out hm
        · exact HN.out (by have h2:(0:UInt8)∈(some c).toList:=hm;simp at h2;exact h2.symm)
       case measure=>simp [RowKit.intOf];omega
   · obtain rfl:i=A.target.length:=by omega
     have HCG:Hid (RB=xsFine [] A.xs):=hid (by have h:=HZ.out;rw[List.take_length] at h;rw[HCE.out,decide_eq_true h,Bool.true_and])
     clear HCE HZ
     go_wp2
     go_loopw [4] (fun v4 wr=>∃ (i:Nat) (last:List UInt8),i≤A.xs.length∧v4= .int .i64 (i:Int)∧Hid (xsFine [] A.xs=xsFine last (A.xs.drop i))∧Hid (i=0→last=[])∧Hid (i≠0→(A.xs[i - 1]?).map (·.1)=some last)∧Hid (Below W.heap.size W wr)) (fun v4 _=>A.xs.length - (RowKit.intOf v4).toNat)
     case atStart=>exact ⟨0,[],by omega,rfl,hid rfl,hid (fun _=>rfl),hid (fun h=>absurd rfl h),hid (Below.refl _ _)⟩
     case round=>
      obtain⟨i,last,hi,rfl,HF,HL0,HL1,HB⟩:=hrel
      have HBF:Hid (Below w.heap.size w wr):=hid (HBW.out.trans (HB.out.mono HBW.out.size))
      have c6:wr.cell? ⟨w.heap.size,6,none⟩=some (.slice va A.xs.length vc):=cell_of_heap (C.out wr HB.out)
      clear k0 k1 k4 k5 k6
      by_cases hil:(i:Int) < (A.xs.length:Int)
      · have hi2:i < A.xs.length:=by omega
        obtain⟨x,hx⟩:∃ x,A.xs[i]? =some x:=⟨_,List.getElem?_eq_getElem hi2⟩
        obtain⟨b,o,rfl,hb,hcl⟩:=HXC.out (fun h=>by rw[h] at hi2;cases hi2)
        have HCL:Hid (∀ w',Below W.heap.size W w'→∀ (j:Nat) z,A.xs[j]? =some z→w'.cell? ⟨b,o+j*2,none⟩=some (.string ⟨z.1.toArray⟩)∧w'.cell? ⟨b,o+j*2+1,none⟩=some (.string ⟨z.2.toArray⟩)):=hid (fun w' hw j z hj=>⟨(World.cell?_of_block (a:=⟨b,o+j*2,none⟩) (hw.block b hb)).trans (hcl j z hj).1,(World.cell?_of_block (a:=⟨b,o+j*2+1,none⟩) (hw.block b hb)).trans (hcl j z hj).2⟩)
        have C6:Hid (∀ w',Below W.heap.size W w'→w'.cell? ⟨w.heap.size,6,none⟩=some (.slice (some ⟨b,o,none⟩) A.xs.length vc)):=hid (fun w' hw=>cell_of_heap (C.out w' hw))
        obtain⟨l1,l2⟩:=HXL.out x (List.mem_of_getElem? hx)
        have HDR:Hid (xsFine [] A.xs=(chk x.1 && (decide (x.2.length≤4096) && (lt last x.1 && xsFine x.1 (A.xs.drop (i+1)))))):=hid (by
         rw[HF.out,List.drop_eq_getElem_cons hi2,xsFine]
         have:A.xs[i]=x:=by rw[List.getElem?_eq_getElem hi2] at hx;exact Option.some.inj hx
         rw[this])
        have hvs:(⟨x.2.toArray⟩:ByteArray).size=x.2.length:=rfl
        have HRG:Hid (wr.rangeAt b (o+i*2) [.string ⟨x.1.toArray⟩,.string ⟨x.2.toArray⟩]):=hid (by
         intro j u hu
         match j,hu with
         |0,hu=>obtain rfl:=Option.some.inj hu;exact(HCL.out wr HB.out i x hx).1
         |1,hu=>obtain rfl:=Option.some.inj hu;exact(HCL.out wr HB.out i x hx).2)
        have HI2:=hid (infoXaR1 x)
        have HX:=hid hx
        clear hcl hx
        go_wp2_with (first
         |(refine wpList_load_mid rfl _ _ rfl b (o+i*2) rfl [.string ⟨x.1.toArray⟩,.string ⟨x.2.toArray⟩] _ HRG.out Tryz.underlying147 rfl HI2.out ?_))
        obtain⟨w2,hw2⟩:∃ w2,w2=wr.alloc (.cells #[.string ⟨x.1.toArray⟩,.string ⟨x.2.toArray⟩] 147):=⟨_,rfl⟩
        have hq2:w2.heap[wr.heap.size]? =some (.cells #[.string ⟨x.1.toArray⟩,.string ⟨x.2.toArray⟩] 147):=by rw[hw2];exact(MapKept.heap_alloc wr _).1
        have hb2:Below wr.heap.size wr w2:=by rw[hw2];exact(Below.refl _ _).alloc (Nat.le_refl _) _
        rw[←hw2]
        have HBN:Hid (Below w.heap.size w w2):=hid (HBF.out.trans (hb2.mono HBF.out.size))
        have HBW2:Hid (Below W.heap.size W w2):=hid (HB.out.trans (hb2.mono HB.out.size))
        have KK:Hid (∀ w',Below w2.heap.size w2 w'→w'.cell? ⟨wr.heap.size,0,none⟩=some (.string ⟨x.1.toArray⟩)∧w'.cell? ⟨wr.heap.size,1,none⟩=some (.string ⟨x.2.toArray⟩)∧w'.cell? ⟨w.heap.size,6,none⟩=some (.slice (some ⟨b,o,none⟩) A.xs.length vc)):=hid (fun w' hw=>by
         have h1:=(hw.block _ (lt_of_heap hq2)).trans hq2
         exact⟨cell_of_heap h1,cell_of_heap h1,C6.out w' (HBW2.out.trans (hw.mono HBW2.out.size))⟩)
        clear hq2 hb2 hw2
        have CNW:=CN.out x.1 w2.drew (HT.out.below HBW2.out.drew)
        rw[chkN] at CNW
        cases hck:chk x.1 with
        |false=>
         rw[hck] at CNW
         have CNW:Hid (Calls Tryz.prog 87 #[.string ⟨x.1.toArray⟩] w2.drew fun e w'=>e= .returned (.int .i64 10)∧Below w2.drew.heap.size w2.drew w'):=hid CNW
         have hr:R=1:=NO.out (by rw[HCG.out,HDR.out,hck,Bool.false_and])
         subst hr
         have KS:=KK
         clear hck HDR
         go_upto_region 14 with(fail)
         refine wp_region_held_drew (S:=(fun w':World=>w'.cell? ⟨wr.heap.size,0,none⟩=some (.string ⟨x.1.toArray⟩)∧w'.cell? ⟨wr.heap.size,1,none⟩=some (.string ⟨x.2.toArray⟩)∧w'.cell? ⟨w.heap.size,6,none⟩=some (.slice (some ⟨b,o,none⟩) A.xs.length vc))) (by kernel_rfl) (KS.out _ (Below.refl _ _).drew) (fun zh=>?_)
         iterate 2
          first|refine' tj 0 rfl rfl (fun _ _ _ h=>h) ?_ zh ?_|refine' tj 1 rfl rfl (fun _ _ _ h=>h) ?_ zh ?_
          rotate_left
          · intro wS hS;obtain⟨k0,k1,k2⟩:=hS;go_simp;try rfl
          try simp only[Act.put,zA,zB,zC,zD,zE,zF]
         refine wpAnyH_ready (rs:=[2]) (by kernel_rfl) (by simp) ?_
         refine AllReadyH.cons rfl (fun K hK=>?_) AllReadyH.nil
         go_simp
         refine CNW.out.mono ?_
         rintro ez wz ⟨rfl,hbz⟩
         have HBZ:=hid (HBN.out.drew.trans (hbz.mono HBN.out.drew.size))
         have HBZ2:Hid (Below w2.heap.size w2 wz):=hid ((Below.refl _ _).drew.trans hbz)
         clear hbz
         go_wp2_with fail
         refine hK.out _ _ (KS.out _ HBZ2.out) ?_
         clear hK K zh
         intro zh
         try simp only[Act.put,zA,zB,zC,zD,zE,zF]
         iterate 2
          first|refine' tj 3 rfl rfl (fun _ _ _ h=>h) ?_ zh ?_|refine' tj 4 rfl rfl (fun _ _ _ h=>h) ?_ zh ?_
          rotate_left
          · intro wS hS;obtain⟨k0,k1,k2⟩:=hS;go_simp;try rfl
          try simp only[Act.put,zA,zB,zC,zD,zE,zF]
         refine tn 5 rfl rfl (fun _ _ _ h=>h) zh ?_
         try simp only[Act.put,zA,zB,zC,zD,zE,zF]
         refine tn 6 rfl rfl (fun _ _ _ h=>h) zh ?_
         try simp only[Act.put,zA,zB,zC,zD,zE,zF]
         refine tn 7 rfl rfl (fun _ _ _ h=>h) zh ?_
         try simp only[Act.put,zA,zB,zC,zD,zE,zF]
         refine tn 8 rfl rfl (fun _ _ _ h=>h) zh ?_
         try simp only[Act.put,zA,zB,zC,zD,zE,zF]
         iterate 2
          first|refine' tj 9 rfl rfl (fun _ _ _ h=>h) ?_ zh ?_|refine' tj 10 rfl rfl (fun _ _ _ h=>h) ?_ zh ?_
          rotate_left
          · intro wS hS;obtain⟨k0,k1,k2⟩:=hS;go_simp;try rfl
          try simp only[Act.put,zA,zB,zC,zD,zE,zF]
         refine tn 11 rfl rfl (fun _ _ _ h=>h) zh ?_
         try simp only[Act.put,zA,zB,zC,zD,zE,zF]
         refine tn 12 rfl rfl (fun _ _ _ h=>h) zh ?_
         try simp only[Act.put,zA,zB,zC,zD,zE,zF]
         refine tn 13 rfl rfl (fun _ _ _ h=>h) zh ?_
         try simp only[Act.put,zA,zB,zC,zD,zE,zF]
         refine tn 14 rfl rfl (fun _ _ _ h=>h) zh ?_
         try simp only[Act.put,zA,zB,zC,zD,zE,zF]
         refine tn 15 rfl rfl (fun _ _ _ h=>h) zh ?_
         try simp only[Act.put,zA,zB,zC,zD,zE,zF]
         refine tn 16 rfl rfl (fun _ _ _ h=>h) zh ?_
         try simp only[Act.put,zA,zB,zC,zD,zE,zF]
         refine tn 17 rfl rfl (fun _ _ _ h=>h) zh ?_
         try simp only[Act.put,zA,zB,zC,zD,zE,zF]
         refine tn 18 rfl rfl (fun _ _ _ h=>h) zh ?_
         try simp only[Act.put,zA,zB,zC,zD,zE,zF]
         refine tn 19 rfl rfl (fun _ _ _ h=>h) zh ?_
         try simp only[Act.put,zA,zB,zC,zD,zE,zF]
         refine tn 20 rfl rfl (fun _ _ _ h=>h) zh ?_
         try simp only[Act.put,zA,zB,zC,zD,zE,zF]
         refine tn 21 rfl rfl (fun _ _ _ h=>h) zh ?_
         try simp only[Act.put,zA,zB,zC,zD,zE,zF]
         refine tn 22 rfl rfl (fun _ _ _ h=>h) zh ?_
         try simp only[Act.put,zA,zB,zC,zD,zE,zF]
         refine tn 23 rfl rfl (fun _ _ _ h=>h) zh ?_
         try simp only[Act.put,zA,zB,zC,zD,zE,zF]
         refine tn 24 rfl rfl (fun _ _ _ h=>h) zh ?_
         try simp only[Act.put,zA,zB,zC,zD,zE,zF]
         refine' tk 25 rfl (fun _ _ _ h=>h) ?cta25 zh ?_
         case cta25=>intro wS hS;obtain⟨k0,k1,k2⟩:=hS;go_simp;try rfl
         try simp only[Act.put,zA,zB,zC,zD,zE,zF]
         refine wpAnyH_done (by kernel_rfl) ?_ _
         clear zh
         try simp only[Act.put,zA,zB,zC,zD,zE,zF]
         go_wp2
         go_ret
         exact⟨rfl,HBZ.out⟩
        |true=>
         rw[hck] at CNW
         have CNW:Hid (Calls Tryz.prog 87 #[.string ⟨x.1.toArray⟩] w2.drew fun e w'=>e= .returned (.int .i64 0)∧Below w2.drew.heap.size w2.drew w'):=hid CNW
         have HDR2:Hid (xsFine [] A.xs=(decide (x.2.length≤4096) && (lt last x.1 && xsFine x.1 (A.xs.drop (i+1))))):=hid (by rw[HDR.out,hck,Bool.true_and])
         have HLT0:=hid (chk_lt hck)
         clear hck HDR
         by_cases hv:x.2.length≤4096
         case neg=>
          have hvi:(4096:Int) < (x.2.length:Int):=by omega
          have hr:R=1:=NO.out (by rw[HCG.out,HDR2.out,decide_eq_false hv,Bool.false_and])
          subst hr
          have KS:=KK
          clear hv HDR2
          go_upto_region 14 with(fail)
          refine wp_region_held_drew (S:=(fun w':World=>w'.cell? ⟨wr.heap.size,0,none⟩=some (.string ⟨x.1.toArray⟩)∧w'.cell? ⟨wr.heap.size,1,none⟩=some (.string ⟨x.2.toArray⟩)∧w'.cell? ⟨w.heap.size,6,none⟩=some (.slice (some ⟨b,o,none⟩) A.xs.length vc))) (by kernel_rfl) (KS.out _ (Below.refl _ _).drew) (fun zh=>?_)
          iterate 2
           first|refine' tj 0 rfl rfl (fun _ _ _ h=>h) ?_ zh ?_|refine' tj 1 rfl rfl (fun _ _ _ h=>h) ?_ zh ?_
           rotate_left
           · intro wS hS;obtain⟨k0,k1,k2⟩:=hS;go_simp;try rfl
           try simp only[Act.put,zA,zB,zC,zD,zE,zF]
          refine wpAnyH_ready (rs:=[2]) (by kernel_rfl) (by simp) ?_
          refine AllReadyH.cons rfl (fun K hK=>?_) AllReadyH.nil
          go_simp
          refine CNW.out.mono ?_
          rintro ez wz ⟨rfl,hbz⟩
          have HBZ:=hid (HBN.out.drew.trans (hbz.mono HBN.out.drew.size))
          have HBZ2:Hid (Below w2.heap.size w2 wz):=hid ((Below.refl _ _).drew.trans hbz)
          clear hbz
          go_wp2_with fail
          refine hK.out _ _ (KS.out _ HBZ2.out) ?_
          clear hK K zh
          intro zh
          try simp only[Act.put,zA,zB,zC,zD,zE,zF]
          iterate 8
           first|refine' tj 3 rfl rfl (fun _ _ _ h=>h) ?_ zh ?_|refine' tj 4 rfl rfl (fun _ _ _ h=>h) ?_ zh ?_|refine' tj 5 rfl rfl (fun _ _ _ h=>h) ?_ zh ?_|refine' tj 6 rfl rfl (fun _ _ _ h=>h) ?_ zh ?_|refine' tj 7 rfl rfl (fun _ _ _ h=>h) ?_ zh ?_|refine' tj 8 rfl rfl (fun _ _ _ h=>h) ?_ zh ?_|refine' tj 9 rfl rfl (fun _ _ _ h=>h) ?_ zh ?_|refine' tj 10 rfl rfl (fun _ _ _ h=>h) ?_ zh ?_
           rotate_left
           · intro wS hS;obtain⟨k0,k1,k2⟩:=hS;go_simp;try rfl
           try simp only[Act.put,zA,zB,zC,zD,zE,zF]
          refine tn 11 rfl rfl (fun _ _ _ h=>h) zh ?_
          try simp only[Act.put,zA,zB,zC,zD,zE,zF]
          refine tn 12 rfl rfl (fun _ _ _ h=>h) zh ?_
          try simp only[Act.put,zA,zB,zC,zD,zE,zF]
          refine tn 13 rfl rfl (fun _ _ _ h=>h) zh ?_
          try simp only[Act.put,zA,zB,zC,zD,zE,zF]
          refine tn 14 rfl rfl (fun _ _ _ h=>h) zh ?_
          try simp only[Act.put,zA,zB,zC,zD,zE,zF]
          refine tn 15 rfl rfl (fun _ _ _ h=>h) zh ?_
          try simp only[Act.put,zA,zB,zC,zD,zE,zF]
          refine tn 16 rfl rfl (fun _ _ _ h=>h) zh ?_
          try simp only[Act.put,zA,zB,zC,zD,zE,zF]
          refine tn 17 rfl rfl (fun _ _ _ h=>h) zh ?_
          try simp only[Act.put,zA,zB,zC,zD,zE,zF]
          refine tn 18 rfl rfl (fun _ _ _ h=>h) zh ?_
          try simp only[Act.put,zA,zB,zC,zD,zE,zF]
          refine tn 19 rfl rfl (fun _ _ _ h=>h) zh ?_
          try simp only[Act.put,zA,zB,zC,zD,zE,zF]
          refine tn 20 rfl rfl (fun _ _ _ h=>h) zh ?_
          try simp only[Act.put,zA,zB,zC,zD,zE,zF]
          refine tn 21 rfl rfl (fun _ _ _ h=>h) zh ?_
          try simp only[Act.put,zA,zB,zC,zD,zE,zF]
          refine tn 22 rfl rfl (fun _ _ _ h=>h) zh ?_
          try simp only[Act.put,zA,zB,zC,zD,zE,zF]
          refine tn 23 rfl rfl (fun _ _ _ h=>h) zh ?_
          try simp only[Act.put,zA,zB,zC,zD,zE,zF]
          refine tn 24 rfl rfl (fun _ _ _ h=>h) zh ?_
          try simp only[Act.put,zA,zB,zC,zD,zE,zF]
          refine' tk 25 rfl (fun _ _ _ h=>h) ?ctb25 zh ?_
          case ctb25=>intro wS hS;obtain⟨k0,k1,k2⟩:=hS;go_simp;try rfl
          try simp only[Act.put,zA,zB,zC,zD,zE,zF]
          refine wpAnyH_done (by kernel_rfl) ?_ _
          clear zh
          try simp only[Act.put,zA,zB,zC,zD,zE,zF]
          go_wp2
          go_ret
          exact⟨rfl,HBZ.out⟩
         have hvi:decide ((4096:Int) < (x.2.length:Int))=false:=by simp;omega
         have hvn:decide (4096 < x.2.length)=false:=by simp;omega
         have HDR4:Hid (xsFine [] A.xs=(lt last x.1 && xsFine x.1 (A.xs.drop (i+1)))):=hid (by rw[HDR2.out,decide_eq_true hv,Bool.true_and])
         clear hv HDR2
         by_cases hi0:i=0
         · have hi01:decide ((0:Int) < (i:Int))=false:=by simp;omega
           have hi0n:decide (0 < i)=false:=by simp;omega
           have HDR3:Hid (xsFine [] A.xs=xsFine x.1 (A.xs.drop (i+1))):=hid (by rw[HDR4.out,HL0.out hi0,HLT0.out,Bool.true_and])
           have KS:=KK
           clear hi0
           go_upto_region 14 with(fail)
           refine wp_region_held_drew (S:=(fun w':World=>w'.cell? ⟨wr.heap.size,0,none⟩=some (.string ⟨x.1.toArray⟩)∧w'.cell? ⟨wr.heap.size,1,none⟩=some (.string ⟨x.2.toArray⟩)∧w'.cell? ⟨w.heap.size,6,none⟩=some (.slice (some ⟨b,o,none⟩) A.xs.length vc))) (by kernel_rfl) (KS.out _ (Below.refl _ _).drew) (fun zh=>?_)
           iterate 2
            first|refine' tj 0 rfl rfl (fun _ _ _ h=>h) ?_ zh ?_|refine' tj 1 rfl rfl (fun _ _ _ h=>h) ?_ zh ?_
            rotate_left
            · intro wS hS;obtain⟨k0,k1,k2⟩:=hS;go_simp;try rfl
            try simp only[Act.put,zA,zB,zC,zD,zE,zF]
           refine wpAnyH_ready (rs:=[2]) (by kernel_rfl) (by simp) ?_
           refine AllReadyH.cons rfl (fun K hK=>?_) AllReadyH.nil
           go_simp
           refine CNW.out.mono ?_
           rintro ez wz ⟨rfl,hbz⟩
           have HBZ:=hid (HBN.out.drew.trans (hbz.mono HBN.out.drew.size))
           have HBZ2:Hid (Below w2.heap.size w2 wz):=hid ((Below.refl _ _).drew.trans hbz)
           clear hbz
           go_wp2_with fail
           refine hK.out _ _ (KS.out _ HBZ2.out) ?_
           clear hK K zh
           intro zh
           try simp only[Act.put,zA,zB,zC,zD,zE,zF]
           iterate 11
            first|refine' tj 3 rfl rfl (fun _ _ _ h=>h) ?_ zh ?_|refine' tj 4 rfl rfl (fun _ _ _ h=>h) ?_ zh ?_|refine' tj 5 rfl rfl (fun _ _ _ h=>h) ?_ zh ?_|refine' tj 6 rfl rfl (fun _ _ _ h=>h) ?_ zh ?_|refine' tj 7 rfl rfl (fun _ _ _ h=>h) ?_ zh ?_|refine' tj 8 rfl rfl (fun _ _ _ h=>h) ?_ zh ?_|refine' tj 9 rfl rfl (fun _ _ _ h=>h) ?_ zh ?_|refine' tj 10 rfl rfl (fun _ _ _ h=>h) ?_ zh ?_|refine' tj 11 rfl rfl (fun _ _ _ h=>h) ?_ zh ?_|refine' tj 12 rfl rfl (fun _ _ _ h=>h) ?_ zh ?_|refine' tj 13 rfl rfl (fun _ _ _ h=>h) ?_ zh ?_
            rotate_left
            · intro wS hS;obtain⟨k0,k1,k2⟩:=hS;go_simp;try rfl
            try simp only[Act.put,zA,zB,zC,zD,zE,zF]
           refine tn 14 rfl rfl (fun _ _ _ h=>h) zh ?_
           try simp only[Act.put,zA,zB,zC,zD,zE,zF]
           refine tn 15 rfl rfl (fun _ _ _ h=>h) zh ?_
           try simp only[Act.put,zA,zB,zC,zD,zE,zF]
           refine tn 16 rfl rfl (fun _ _ _ h=>h) zh ?_
           try simp only[Act.put,zA,zB,zC,zD,zE,zF]
           refine tn 17 rfl rfl (fun _ _ _ h=>h) zh ?_
           try simp only[Act.put,zA,zB,zC,zD,zE,zF]
           refine tn 18 rfl rfl (fun _ _ _ h=>h) zh ?_
           try simp only[Act.put,zA,zB,zC,zD,zE,zF]
           refine tn 19 rfl rfl (fun _ _ _ h=>h) zh ?_
           try simp only[Act.put,zA,zB,zC,zD,zE,zF]
           refine tn 20 rfl rfl (fun _ _ _ h=>h) zh ?_
           try simp only[Act.put,zA,zB,zC,zD,zE,zF]
           refine tn 21 rfl rfl (fun _ _ _ h=>h) zh ?_
           try simp only[Act.put,zA,zB,zC,zD,zE,zF]
           refine tn 22 rfl rfl (fun _ _ _ h=>h) zh ?_
           try simp only[Act.put,zA,zB,zC,zD,zE,zF]
           refine tn 23 rfl rfl (fun _ _ _ h=>h) zh ?_
           try simp only[Act.put,zA,zB,zC,zD,zE,zF]
           iterate 2
            first|refine' tj 24 rfl rfl (fun _ _ _ h=>h) ?_ zh ?_|refine' tj 25 rfl rfl (fun _ _ _ h=>h) ?_ zh ?_
            rotate_left
            · intro wS hS;obtain⟨k0,k1,k2⟩:=hS;go_simp;try rfl
            try simp only[Act.put,zA,zB,zC,zD,zE,zF]
           refine wpAnyH_done (by kernel_rfl) ?_ _
           clear zh
           try simp only[Act.put,zA,zB,zC,zD,zE,zF]
           go_wp2
           go_roundw
           case rel=>exact ⟨i+1,x.1,by omega,by go_num,HDR3,hid (fun h=>absurd h (Nat.succ_ne_zero _)),hid (fun _=>by rw[Nat.add_sub_cancel,HX.out];rfl),hid (HBW2.out.trans (HBZ2.out.mono HBW2.out.size))⟩
           case measure=>simp [RowKit.intOf];omega
         · have hi01:decide ((0:Int) < (i:Int))=true:=by simp;omega
           have hi0n:decide (0 < i)=true:=by simp;omega
           have hlast:=HL1.out hi0
           obtain⟨y,hy⟩:∃ y,A.xs[i - 1]? =some y:=⟨_,List.getElem?_eq_getElem (by omega)⟩
           have hyl:y.1=last:=by rw[hy] at hlast;exact Option.some.inj hlast
           have KS:Hid (∀ w',Below w2.heap.size w2 w'→w'.cell? ⟨wr.heap.size,0,none⟩=some (.string ⟨x.1.toArray⟩)∧w'.cell? ⟨wr.heap.size,1,none⟩=some (.string ⟨x.2.toArray⟩)∧w'.cell? ⟨w.heap.size,6,none⟩=some (.slice (some ⟨b,o,none⟩) A.xs.length vc)∧w'.cell? ⟨b,o+(i - 1)*2,none⟩=some (.string ⟨y.1.toArray⟩)):=hid (fun w' hw=>by
            obtain⟨h1,h2,h3⟩:=KK.out w' hw
            exact⟨h1,h2,h3,(HCL.out w' (HBW2.out.trans (hw.mono HBW2.out.size)) (i - 1) y hy).1⟩)
           have HY:=hid hyl
           have hw1:IntKind.i64.wrap ((i:Int) - 1)=((i - 1:Nat):Int):=by rw[IntKind.wrap_i64];omega
           have hi4:((i - 1:Nat):Int) < (A.xs.length:Int):=by omega
           clear hi0 hlast hy hyl
           cases hlt:lt last x.1 with
           |false=>
            have hl0:Op.bytesLess y.1 x.1=false:=by rw[lt_less,HY.out];exact hlt
            have hr:R=1:=NO.out (by rw[HCG.out,HDR4.out,hlt,Bool.false_and])
            subst hr
            clear hlt
            go_upto_region 14 with(fail)
            refine wp_region_held_drew (S:=(fun w':World=>w'.cell? ⟨wr.heap.size,0,none⟩=some (.string ⟨x.1.toArray⟩)∧w'.cell? ⟨wr.heap.size,1,none⟩=some (.string ⟨x.2.toArray⟩)∧w'.cell? ⟨w.heap.size,6,none⟩=some (.slice (some ⟨b,o,none⟩) A.xs.length vc)∧w'.cell? ⟨b,o+(i - 1)*2,none⟩=some (.string ⟨y.1.toArray⟩))) (by kernel_rfl) (KS.out _ (Below.refl _ _).drew) (fun zh=>?_)
            iterate 2
             first|refine' tj 0 rfl rfl (fun _ _ _ h=>h) ?_ zh ?_|refine' tj 1 rfl rfl (fun _ _ _ h=>h) ?_ zh ?_
             rotate_left
             · intro wS hS;obtain⟨k0,k1,k2,k3⟩:=hS;go_simp;try rfl
             try simp only[Act.put,zA,zB,zC,zD,zE,zF]
            refine wpAnyH_ready (rs:=[2]) (by kernel_rfl) (by simp) ?_
            refine AllReadyH.cons rfl (fun K hK=>?_) AllReadyH.nil
            go_simp
            refine CNW.out.mono ?_
            rintro ez wz ⟨rfl,hbz⟩
            have HBZ:=hid (HBN.out.drew.trans (hbz.mono HBN.out.drew.size))
            have HBZ2:Hid (Below w2.heap.size w2 wz):=hid ((Below.refl _ _).drew.trans hbz)
            clear hbz
            go_wp2_with fail
            refine hK.out _ _ (KS.out _ HBZ2.out) ?_
            clear hK K zh
            intro zh
            try simp only[Act.put,zA,zB,zC,zD,zE,zF]
            iterate 10
             first|refine' tj 3 rfl rfl (fun _ _ _ h=>h) ?_ zh ?_|refine' tj 4 rfl rfl (fun _ _ _ h=>h) ?_ zh ?_|refine' tj 5 rfl rfl (fun _ _ _ h=>h) ?_ zh ?_|refine' tj 6 rfl rfl (fun _ _ _ h=>h) ?_ zh ?_|refine' tj 7 rfl rfl (fun _ _ _ h=>h) ?_ zh ?_|refine' tj 8 rfl rfl (fun _ _ _ h=>h) ?_ zh ?_|refine' tj 9 rfl rfl (fun _ _ _ h=>h) ?_ zh ?_|refine' tj 10 rfl rfl (fun _ _ _ h=>h) ?_ zh ?_|refine' tj 11 rfl rfl (fun _ _ _ h=>h) ?_ zh ?_|refine' tj 12 rfl rfl (fun _ _ _ h=>h) ?_ zh ?_
             rotate_left
             · intro wS hS;obtain⟨k0,k1,k2,k3⟩:=hS;go_simp;try rfl
             try simp only[Act.put,zA,zB,zC,zD,zE,zF]
            iterate 4
             first|refine' tj 13 rfl rfl (fun _ _ _ h=>h) ?_ zh ?_|refine' tj 14 rfl rfl (fun _ _ _ h=>h) ?_ zh ?_|refine' tj 15 rfl rfl (fun _ _ _ h=>h) ?_ zh ?_|refine' tj 16 rfl rfl (fun _ _ _ h=>h) ?_ zh ?_
             rotate_left
             · intro wS hS;obtain⟨k0,k1,k2,k3⟩:=hS;go_simp;try rfl
             try simp only[Act.put,zA,zB,zC,zD,zE,zF]
            refine tk 17 rfl (v:=(.int .i64 ((i - 1:Nat):Int))) (fun _ _ _ h=>h) ?ctd17 zh ?_
            case ctd17=>
             intro wS hS
             obtain⟨k0,k1,k2,k3⟩:=hS
             go_simp
             try rw[hw1]
             try rfl
            try simp only[Act.put,zA,zB,zC,zD,zE,zF]
            refine tk 18 rfl (v:=(.pointer (some ⟨b,o+(i - 1)*2,none⟩))) (fun _ _ _ h=>h) ?ctd18 zh ?_
            case ctd18=>intro wS hS;obtain⟨k0,k1,k2,k3⟩:=hS;go_simp;try rfl
            try simp only[Act.put,zA,zB,zC,zD,zE,zF]
            iterate 7
             first|refine' tj 19 rfl rfl (fun _ _ _ h=>h) ?_ zh ?_|refine' tj 20 rfl rfl (fun _ _ _ h=>h) ?_ zh ?_|refine' tj 21 rfl rfl (fun _ _ _ h=>h) ?_ zh ?_|refine' tj 22 rfl rfl (fun _ _ _ h=>h) ?_ zh ?_|refine' tj 23 rfl rfl (fun _ _ _ h=>h) ?_ zh ?_|refine' tj 24 rfl rfl (fun _ _ _ h=>h) ?_ zh ?_|refine' tj 25 rfl rfl (fun _ _ _ h=>h) ?_ zh ?_
             rotate_left
             · intro wS hS;obtain⟨k0,k1,k2,k3⟩:=hS;go_simp;try rfl
             try simp only[Act.put,zA,zB,zC,zD,zE,zF]
            refine wpAnyH_done (by kernel_rfl) ?_ _
            clear zh
            try simp only[Act.put,zA,zB,zC,zD,zE,zF]
            go_wp2
            go_ret
            exact⟨rfl,HBZ.out⟩
           |true=>
            have hl0:Op.bytesLess y.1 x.1=true:=by rw[lt_less,HY.out];exact hlt
            have HDR3:Hid (xsFine [] A.xs=xsFine x.1 (A.xs.drop (i+1))):=hid (by rw[HDR4.out,hlt,Bool.true_and])
            clear hlt
            go_upto_region 14 with(fail)
            refine wp_region_held_drew (S:=(fun w':World=>w'.cell? ⟨wr.heap.size,0,none⟩=some (.string ⟨x.1.toArray⟩)∧w'.cell? ⟨wr.heap.size,1,none⟩=some (.string ⟨x.2.toArray⟩)∧w'.cell? ⟨w.heap.size,6,none⟩=some (.slice (some ⟨b,o,none⟩) A.xs.length vc)∧w'.cell? ⟨b,o+(i - 1)*2,none⟩=some (.string ⟨y.1.toArray⟩))) (by kernel_rfl) (KS.out _ (Below.refl _ _).drew) (fun zh=>?_)
            iterate 2
             first|refine' tj 0 rfl rfl (fun _ _ _ h=>h) ?_ zh ?_|refine' tj 1 rfl rfl (fun _ _ _ h=>h) ?_ zh ?_
             rotate_left
             · intro wS hS;obtain⟨k0,k1,k2,k3⟩:=hS;go_simp;try rfl
             try simp only[Act.put,zA,zB,zC,zD,zE,zF]
            refine wpAnyH_ready (rs:=[2]) (by kernel_rfl) (by simp) ?_
            refine AllReadyH.cons rfl (fun K hK=>?_) AllReadyH.nil
            go_simp
            refine CNW.out.mono ?_
            rintro ez wz ⟨rfl,hbz⟩
            have HBZ:=hid (HBN.out.drew.trans (hbz.mono HBN.out.drew.size))
            have HBZ2:Hid (Below w2.heap.size w2 wz):=hid ((Below.refl _ _).drew.trans hbz)
            clear hbz
            go_wp2_with fail
            refine hK.out _ _ (KS.out _ HBZ2.out) ?_
            clear hK K zh
            intro zh
            try simp only[Act.put,zA,zB,zC,zD,zE,zF]
            iterate 10
             first|refine' tj 3 rfl rfl (fun _ _ _ h=>h) ?_ zh ?_|refine' tj 4 rfl rfl (fun _ _ _ h=>h) ?_ zh ?_|refine' tj 5 rfl rfl (fun _ _ _ h=>h) ?_ zh ?_|refine' tj 6 rfl rfl (fun _ _ _ h=>h) ?_ zh ?_|refine' tj 7 rfl rfl (fun _ _ _ h=>h) ?_ zh ?_|refine' tj 8 rfl rfl (fun _ _ _ h=>h) ?_ zh ?_|refine' tj 9 rfl rfl (fun _ _ _ h=>h) ?_ zh ?_|refine' tj 10 rfl rfl (fun _ _ _ h=>h) ?_ zh ?_|refine' tj 11 rfl rfl (fun _ _ _ h=>h) ?_ zh ?_|refine' tj 12 rfl rfl (fun _ _ _ h=>h) ?_ zh ?_
             rotate_left
             · intro wS hS;obtain⟨k0,k1,k2,k3⟩:=hS;go_simp;try rfl
             try simp only[Act.put,zA,zB,zC,zD,zE,zF]
            iterate 4
             first|refine' tj 13 rfl rfl (fun _ _ _ h=>h) ?_ zh ?_|refine' tj 14 rfl rfl (fun _ _ _ h=>h) ?_ zh ?_|refine' tj 15 rfl rfl (fun _ _ _ h=>h) ?_ zh ?_|refine' tj 16 rfl rfl (fun _ _ _ h=>h) ?_ zh ?_
             rotate_left
             · intro wS hS;obtain⟨k0,k1,k2,k3⟩:=hS;go_simp;try rfl
             try simp only[Act.put,zA,zB,zC,zD,zE,zF]
            refine tk 17 rfl (v:=(.int .i64 ((i - 1:Nat):Int))) (fun _ _ _ h=>h) ?cte17 zh ?_
            case cte17=>
             intro wS hS
             obtain⟨k0,k1,k2,k3⟩:=hS
             go_simp
             try rw[hw1]
             try rfl
            try simp only[Act.put,zA,zB,zC,zD,zE,zF]
            refine tk 18 rfl (v:=(.pointer (some ⟨b,o+(i - 1)*2,none⟩))) (fun _ _ _ h=>h) ?cte18 zh ?_
            case cte18=>intro wS hS;obtain⟨k0,k1,k2,k3⟩:=hS;go_simp;try rfl
            try simp only[Act.put,zA,zB,zC,zD,zE,zF]
            iterate 7
             first|refine' tj 19 rfl rfl (fun _ _ _ h=>h) ?_ zh ?_|refine' tj 20 rfl rfl (fun _ _ _ h=>h) ?_ zh ?_|refine' tj 21 rfl rfl (fun _ _ _ h=>h) ?_ zh ?_|refine' tj 22 rfl rfl (fun _ _ _ h=>h) ?_ zh ?_|refine' tj 23 rfl rfl (fun _ _ _ h=>h) ?_ zh ?_|refine' tj 24 rfl rfl (fun _ _ _ h=>h) ?_ zh ?_|refine' tj 25 rfl rfl (fun _ _ _ h=>h) ?_ zh ?_
             rotate_left
             · intro wS hS;obtain⟨k0,k1,k2,k3⟩:=hS;go_simp;try rfl
             try simp only[Act.put,zA,zB,zC,zD,zE,zF]
            refine wpAnyH_done (by kernel_rfl) ?_ _
            clear zh
            try simp only[Act.put,zA,zB,zC,zD,zE,zF]
            go_wp2
            go_roundw
            case rel=>exact ⟨i+1,x.1,by omega,by go_num,HDR3,hid (fun h=>absurd h (Nat.succ_ne_zero _)),hid (fun _=>by rw[Nat.add_sub_cancel,HX.out];rfl),hid (HBW2.out.trans (HBZ2.out.mono HBW2.out.size))⟩
            case measure=>simp [RowKit.intOf];omega
      · obtain rfl:i=A.xs.length:=by omega
        have hr:R=0:=by
         rw[HCA.out,HCG.out,HF.out,List.drop_length];rfl
        subst hr
        go_wp2
        go_ret
        exact⟨rfl,HBF.out⟩
 |false=>
  clear a7
  rw[Bool.not_false] at e4 e5
  rw[Bool.not_false,Bool.not_true] at e6
  go_enter Tryz.func69,Tryz.ntmps69
  go_wp2
  rw[←HW.out]
  go_loopw [3] (fun v3 wr=>∃ i:Nat,i≤A.target.length∧v3= .int .i64 (i:Int)∧Hid (0 ∉ A.target.take i)∧wr=W) (fun v3 _=>A.target.length - (RowKit.intOf v3).toNat)
  case atStart=>exact ⟨0,Nat.zero_le _,rfl,hid (by simp),rfl⟩
  case round=>
   obtain⟨i,hi,rfl,HZ,hwr⟩:=hrel
   replace hwr:=hwr.symm
   subst hwr
   rw[←HW.out] at k5 k6
   by_cases hil:(i:Int) < (A.target.length:Int)
   · have hi2:i < A.target.length:=by omega
     obtain⟨c,hc⟩:∃ c,A.target[i]? =some c:=⟨_,List.getElem?_eq_getElem hi2⟩
     have HC:=hid hc
     have hlt:i < (⟨A.target.toArray⟩:ByteArray).size:=hi2
     have hgb:(⟨A.target.toArray⟩:ByteArray)[i]'hlt=c:=by
      have h1:A.target[i]=c:=by rw[List.getElem?_eq_getElem hi2] at hc;exact Option.some.inj hc
      rw[←h1];rfl
     by_cases hz:c=0
     · subst hz
       have hr:R=1:=NO.out (by rw[HCE.out,decide_eq_false (by simpa using List.mem_of_getElem? hc),Bool.false_and])
       subst hr
       have hz2:((((⟨A.target.toArray⟩:ByteArray)[i]'hlt).toNat:Int)==0)=true:=by rw[hgb];rfl
       clear HCA HCE NO hc hgb
       go_wp2
       go_ret
       exact⟨rfl,HBW.out⟩
     · have hz1:(c.toNat:Int)≠0:=fun h=>hz (by have:c.toNat=0:=by omega
                                               exact UInt8.toNat_inj.1 this)
       have hz2:((((⟨A.target.toArray⟩:ByteArray)[i]'hlt).toNat:Int)==0)=false:=by rw[hgb,beq_eq_false_iff_ne];exact hz1
       have HN:=hid hz
       clear hz hc hz1 hgb
       go_wp2
       go_roundw
       case rel=>
        refine⟨i+1,by omega,by go_num,hid (fun hm=>?_),trivial⟩
        rw[List.take_add_one,HC.out,List.mem_append] at hm
        rcases hm with hm|hm
        · exact HZ.out hm
        · exact HN.out (by have h2:(0:UInt8)∈(some c).toList:=hm;simp at h2;exact h2.symm)
       case measure=>simp [RowKit.intOf];omega
   · obtain rfl:i=A.target.length:=by omega
     have HCG:Hid (RB=xsFine [] A.xs):=hid (by have h:=HZ.out;rw[List.take_length] at h;rw[HCE.out,decide_eq_true h,Bool.true_and])
     clear HCE HZ
     go_wp2
     go_loopw [4] (fun v4 wr=>∃ (i:Nat) (last:List UInt8),i≤A.xs.length∧v4= .int .i64 (i:Int)∧Hid (xsFine [] A.xs=xsFine last (A.xs.drop i))∧Hid (i=0→last=[])∧Hid (i≠0→(A.xs[i - 1]?).map (·.1)=some last)∧Hid (Below W.heap.size W wr)) (fun v4 _=>A.xs.length - (RowKit.intOf v4).toNat)
     case atStart=>exact ⟨0,[],by omega,rfl,hid rfl,hid (fun _=>rfl),hid (fun h=>absurd rfl h),hid (Below.refl _ _)⟩
     case round=>
      obtain⟨i,last,hi,rfl,HF,HL0,HL1,HB⟩:=hrel
      have HBF:Hid (Below w.heap.size w wr):=hid (HBW.out.trans (HB.out.mono HBW.out.size))
      have c6:wr.cell? ⟨w.heap.size,6,none⟩=some (.slice va A.xs.length vc):=cell_of_heap (C.out wr HB.out)
      clear k0 k1 k4 k5 k6
      by_cases hil:(i:Int) < (A.xs.length:Int)
      · have hi2:i < A.xs.length:=by omega
        obtain⟨x,hx⟩:∃ x,A.xs[i]? =some x:=⟨_,List.getElem?_eq_getElem hi2⟩
        obtain⟨b,o,rfl,hb,hcl⟩:=HXC.out (fun h=>by rw[h] at hi2;cases hi2)
        have HCL:Hid (∀ w',Below W.heap.size W w'→∀ (j:Nat) z,A.xs[j]? =some z→w'.cell? ⟨b,o+j*2,none⟩=some (.string ⟨z.1.toArray⟩)∧w'.cell? ⟨b,o+j*2+1,none⟩=some (.string ⟨z.2.toArray⟩)):=hid (fun w' hw j z hj=>⟨(World.cell?_of_block (a:=⟨b,o+j*2,none⟩) (hw.block b hb)).trans (hcl j z hj).1,(World.cell?_of_block (a:=⟨b,o+j*2+1,none⟩) (hw.block b hb)).trans (hcl j z hj).2⟩)
        have C6:Hid (∀ w',Below W.heap.size W w'→w'.cell? ⟨w.heap.size,6,none⟩=some (.slice (some ⟨b,o,none⟩) A.xs.length vc)):=hid (fun w' hw=>cell_of_heap (C.out w' hw))
        obtain⟨l1,l2⟩:=HXL.out x (List.mem_of_getElem? hx)
        have HDR:Hid (xsFine [] A.xs=(chk x.1 && (decide (x.2.length≤4096) && (lt last x.1 && xsFine x.1 (A.xs.drop (i+1)))))):=hid (by
         rw[HF.out,List.drop_eq_getElem_cons hi2,xsFine]
         have:A.xs[i]=x:=by rw[List.getElem?_eq_getElem hi2] at hx;exact Option.some.inj hx
         rw[this])
        have hvs:(⟨x.2.toArray⟩:ByteArray).size=x.2.length:=rfl
        have HRG:Hid (wr.rangeAt b (o+i*2) [.string ⟨x.1.toArray⟩,.string ⟨x.2.toArray⟩]):=hid (by
         intro j u hu
         match j,hu with
         |0,hu=>obtain rfl:=Option.some.inj hu;exact(HCL.out wr HB.out i x hx).1
         |1,hu=>obtain rfl:=Option.some.inj hu;exact(HCL.out wr HB.out i x hx).2)
        have HI2:=hid (infoXaR1 x)
        have HX:=hid hx
        clear hcl hx
        go_wp2_with (first
         |(refine wpList_load_mid rfl _ _ rfl b (o+i*2) rfl [.string ⟨x.1.toArray⟩,.string ⟨x.2.toArray⟩] _ HRG.out Tryz.underlying147 rfl HI2.out ?_))
        obtain⟨w2,hw2⟩:∃ w2,w2=wr.alloc (.cells #[.string ⟨x.1.toArray⟩,.string ⟨x.2.toArray⟩] 147):=⟨_,rfl⟩
        have hq2:w2.heap[wr.heap.size]? =some (.cells #[.string ⟨x.1.toArray⟩,.string ⟨x.2.toArray⟩] 147):=by rw[hw2];exact(MapKept.heap_alloc wr _).1
        have hb2:Below wr.heap.size wr w2:=by rw[hw2];exact(Below.refl _ _).alloc (Nat.le_refl _) _
        rw[←hw2]
        have HBN:Hid (Below w.heap.size w w2):=hid (HBF.out.trans (hb2.mono HBF.out.size))
        have HBW2:Hid (Below W.heap.size W w2):=hid (HB.out.trans (hb2.mono HB.out.size))
        have KK:Hid (∀ w',Below w2.heap.size w2 w'→w'.cell? ⟨wr.heap.size,0,none⟩=some (.string ⟨x.1.toArray⟩)∧w'.cell? ⟨wr.heap.size,1,none⟩=some (.string ⟨x.2.toArray⟩)∧w'.cell? ⟨w.heap.size,6,none⟩=some (.slice (some ⟨b,o,none⟩) A.xs.length vc)):=hid (fun w' hw=>by
         have h1:=(hw.block _ (lt_of_heap hq2)).trans hq2
         exact⟨cell_of_heap h1,cell_of_heap h1,C6.out w' (HBW2.out.trans (hw.mono HBW2.out.size))⟩)
        clear hq2 hb2 hw2
        have CNW:=CN.out x.1 w2.drew (HT.out.below HBW2.out.drew)
        rw[chkN] at CNW
        cases hck:chk x.1 with
        |false=>
         rw[hck] at CNW
         have CNW:Hid (Calls Tryz.prog 87 #[.string ⟨x.1.toArray⟩] w2.drew fun e w'=>e= .returned (.int .i64 10)∧Below w2.drew.heap.size w2.drew w'):=hid CNW
         have hr:R=1:=NO.out (by rw[HCG.out,HDR.out,hck,Bool.false_and])
         subst hr
         have KS:=KK
         clear hck HDR
         go_upto_region 14 with(fail)
         refine wp_region_held_drew (S:=(fun w':World=>w'.cell? ⟨wr.heap.size,0,none⟩=some (.string ⟨x.1.toArray⟩)∧w'.cell? ⟨wr.heap.size,1,none⟩=some (.string ⟨x.2.toArray⟩)∧w'.cell? ⟨w.heap.size,6,none⟩=some (.slice (some ⟨b,o,none⟩) A.xs.length vc))) (by kernel_rfl) (KS.out _ (Below.refl _ _).drew) (fun zh=>?_)
         iterate 2
          first|refine' tj 0 rfl rfl (fun _ _ _ h=>h) ?_ zh ?_|refine' tj 1 rfl rfl (fun _ _ _ h=>h) ?_ zh ?_
          rotate_left
          · intro wS hS;obtain⟨k0,k1,k2⟩:=hS;go_simp;try rfl
          try simp only[Act.put,zA,zB,zC,zD,zE,zF]
         refine wpAnyH_ready (rs:=[2]) (by kernel_rfl) (by simp) ?_
         refine AllReadyH.cons rfl (fun K hK=>?_) AllReadyH.nil
         go_simp
         refine CNW.out.mono ?_
         rintro ez wz ⟨rfl,hbz⟩
         have HBZ:=hid (HBN.out.drew.trans (hbz.mono HBN.out.drew.size))
         have HBZ2:Hid (Below w2.heap.size w2 wz):=hid ((Below.refl _ _).drew.trans hbz)
         clear hbz
         go_wp2_with fail
         refine hK.out _ _ (KS.out _ HBZ2.out) ?_
         clear hK K zh
         intro zh
         try simp only[Act.put,zA,zB,zC,zD,zE,zF]
         iterate 2
          first|refine' tj 3 rfl rfl (fun _ _ _ h=>h) ?_ zh ?_|refine' tj 4 rfl rfl (fun _ _ _ h=>h) ?_ zh ?_
          rotate_left
          · intro wS hS;obtain⟨k0,k1,k2⟩:=hS;go_simp;try rfl
          try simp only[Act.put,zA,zB,zC,zD,zE,zF]
         refine tn 5 rfl rfl (fun _ _ _ h=>h) zh ?_
         try simp only[Act.put,zA,zB,zC,zD,zE,zF]
         refine tn 6 rfl rfl (fun _ _ _ h=>h) zh ?_
         try simp only[Act.put,zA,zB,zC,zD,zE,zF]
         refine tn 7 rfl rfl (fun _ _ _ h=>h) zh ?_
         try simp only[Act.put,zA,zB,zC,zD,zE,zF]
         refine tn 8 rfl rfl (fun _ _ _ h=>h) zh ?_
         try simp only[Act.put,zA,zB,zC,zD,zE,zF]
         iterate 2
          first|refine' tj 9 rfl rfl (fun _ _ _ h=>h) ?_ zh ?_|refine' tj 10 rfl rfl (fun _ _ _ h=>h) ?_ zh ?_
          rotate_left
          · intro wS hS;obtain⟨k0,k1,k2⟩:=hS;go_simp;try rfl
          try simp only[Act.put,zA,zB,zC,zD,zE,zF]
         refine tn 11 rfl rfl (fun _ _ _ h=>h) zh ?_
         try simp only[Act.put,zA,zB,zC,zD,zE,zF]
         refine tn 12 rfl rfl (fun _ _ _ h=>h) zh ?_
         try simp only[Act.put,zA,zB,zC,zD,zE,zF]
         refine tn 13 rfl rfl (fun _ _ _ h=>h) zh ?_
         try simp only[Act.put,zA,zB,zC,zD,zE,zF]
         refine tn 14 rfl rfl (fun _ _ _ h=>h) zh ?_
         try simp only[Act.put,zA,zB,zC,zD,zE,zF]
         refine tn 15 rfl rfl (fun _ _ _ h=>h) zh ?_
         try simp only[Act.put,zA,zB,zC,zD,zE,zF]
         refine tn 16 rfl rfl (fun _ _ _ h=>h) zh ?_
         try simp only[Act.put,zA,zB,zC,zD,zE,zF]
         refine tn 17 rfl rfl (fun _ _ _ h=>h) zh ?_
         try simp only[Act.put,zA,zB,zC,zD,zE,zF]
         refine tn 18 rfl rfl (fun _ _ _ h=>h) zh ?_
         try simp only[Act.put,zA,zB,zC,zD,zE,zF]
         refine tn 19 rfl rfl (fun _ _ _ h=>h) zh ?_
         try simp only[Act.put,zA,zB,zC,zD,zE,zF]
         refine tn 20 rfl rfl (fun _ _ _ h=>h) zh ?_
         try simp only[Act.put,zA,zB,zC,zD,zE,zF]
         refine tn 21 rfl rfl (fun _ _ _ h=>h) zh ?_
         try simp only[Act.put,zA,zB,zC,zD,zE,zF]
         refine tn 22 rfl rfl (fun _ _ _ h=>h) zh ?_
         try simp only[Act.put,zA,zB,zC,zD,zE,zF]
         refine tn 23 rfl rfl (fun _ _ _ h=>h) zh ?_
         try simp only[Act.put,zA,zB,zC,zD,zE,zF]
         refine tn 24 rfl rfl (fun _ _ _ h=>h) zh ?_
         try simp only[Act.put,zA,zB,zC,zD,zE,zF]
         refine' tk 25 rfl (fun _ _ _ h=>h) ?cfa25 zh ?_
         case cfa25=>intro wS hS;obtain⟨k0,k1,k2⟩:=hS;go_simp;try rfl
         try simp only[Act.put,zA,zB,zC,zD,zE,zF]
         refine wpAnyH_done (by kernel_rfl) ?_ _
         clear zh
         try simp only[Act.put,zA,zB,zC,zD,zE,zF]
         go_wp2
         go_ret
         exact⟨rfl,HBZ.out⟩
        |true=>
         rw[hck] at CNW
         have CNW:Hid (Calls Tryz.prog 87 #[.string ⟨x.1.toArray⟩] w2.drew fun e w'=>e= .returned (.int .i64 0)∧Below w2.drew.heap.size w2.drew w'):=hid CNW
         have HDR2:Hid (xsFine [] A.xs=(decide (x.2.length≤4096) && (lt last x.1 && xsFine x.1 (A.xs.drop (i+1))))):=hid (by rw[HDR.out,hck,Bool.true_and])
         have HLT0:=hid (chk_lt hck)
         clear hck HDR
         by_cases hv:x.2.length≤4096
         case neg=>
          have hvi:(4096:Int) < (x.2.length:Int):=by omega
          have hr:R=1:=NO.out (by rw[HCG.out,HDR2.out,decide_eq_false hv,Bool.false_and])
          subst hr
          have KS:=KK
          clear hv HDR2
          go_upto_region 14 with(fail)
          refine wp_region_held_drew (S:=(fun w':World=>w'.cell? ⟨wr.heap.size,0,none⟩=some (.string ⟨x.1.toArray⟩)∧w'.cell? ⟨wr.heap.size,1,none⟩=some (.string ⟨x.2.toArray⟩)∧w'.cell? ⟨w.heap.size,6,none⟩=some (.slice (some ⟨b,o,none⟩) A.xs.length vc))) (by kernel_rfl) (KS.out _ (Below.refl _ _).drew) (fun zh=>?_)
          iterate 2
           first|refine' tj 0 rfl rfl (fun _ _ _ h=>h) ?_ zh ?_|refine' tj 1 rfl rfl (fun _ _ _ h=>h) ?_ zh ?_
           rotate_left
           · intro wS hS;obtain⟨k0,k1,k2⟩:=hS;go_simp;try rfl
           try simp only[Act.put,zA,zB,zC,zD,zE,zF]
          refine wpAnyH_ready (rs:=[2]) (by kernel_rfl) (by simp) ?_
          refine AllReadyH.cons rfl (fun K hK=>?_) AllReadyH.nil
          go_simp
          refine CNW.out.mono ?_
          rintro ez wz ⟨rfl,hbz⟩
          have HBZ:=hid (HBN.out.drew.trans (hbz.mono HBN.out.drew.size))
          have HBZ2:Hid (Below w2.heap.size w2 wz):=hid ((Below.refl _ _).drew.trans hbz)
          clear hbz
          go_wp2_with fail
          refine hK.out _ _ (KS.out _ HBZ2.out) ?_
          clear hK K zh
          intro zh
          try simp only[Act.put,zA,zB,zC,zD,zE,zF]
          iterate 8
           first|refine' tj 3 rfl rfl (fun _ _ _ h=>h) ?_ zh ?_|refine' tj 4 rfl rfl (fun _ _ _ h=>h) ?_ zh ?_|refine' tj 5 rfl rfl (fun _ _ _ h=>h) ?_ zh ?_|refine' tj 6 rfl rfl (fun _ _ _ h=>h) ?_ zh ?_|refine' tj 7 rfl rfl (fun _ _ _ h=>h) ?_ zh ?_|refine' tj 8 rfl rfl (fun _ _ _ h=>h) ?_ zh ?_|refine' tj 9 rfl rfl (fun _ _ _ h=>h) ?_ zh ?_|refine' tj 10 rfl rfl (fun _ _ _ h=>h) ?_ zh ?_
           rotate_left
           · intro wS hS;obtain⟨k0,k1,k2⟩:=hS;go_simp;try rfl
           try simp only[Act.put,zA,zB,zC,zD,zE,zF]
          refine tn 11 rfl rfl (fun _ _ _ h=>h) zh ?_
          try simp only[Act.put,zA,zB,zC,zD,zE,zF]
          refine tn 12 rfl rfl (fun _ _ _ h=>h) zh ?_
          try simp only[Act.put,zA,zB,zC,zD,zE,zF]
          refine tn 13 rfl rfl (fun _ _ _ h=>h) zh ?_
          try simp only[Act.put,zA,zB,zC,zD,zE,zF]
          refine tn 14 rfl rfl (fun _ _ _ h=>h) zh ?_
          try simp only[Act.put,zA,zB,zC,zD,zE,zF]
          refine tn 15 rfl rfl (fun _ _ _ h=>h) zh ?_
          try simp only[Act.put,zA,zB,zC,zD,zE,zF]
          refine tn 16 rfl rfl (fun _ _ _ h=>h) zh ?_
          try simp only[Act.put,zA,zB,zC,zD,zE,zF]
          refine tn 17 rfl rfl (fun _ _ _ h=>h) zh ?_
          try simp only[Act.put,zA,zB,zC,zD,zE,zF]
          refine tn 18 rfl rfl (fun _ _ _ h=>h) zh ?_
          try simp only[Act.put,zA,zB,zC,zD,zE,zF]
          refine tn 19 rfl rfl (fun _ _ _ h=>h) zh ?_
          try simp only[Act.put,zA,zB,zC,zD,zE,zF]
          refine tn 20 rfl rfl (fun _ _ _ h=>h) zh ?_
          try simp only[Act.put,zA,zB,zC,zD,zE,zF]
          refine tn 21 rfl rfl (fun _ _ _ h=>h) zh ?_
          try simp only[Act.put,zA,zB,zC,zD,zE,zF]
          refine tn 22 rfl rfl (fun _ _ _ h=>h) zh ?_
          try simp only[Act.put,zA,zB,zC,zD,zE,zF]
          refine tn 23 rfl rfl (fun _ _ _ h=>h) zh ?_
          try simp only[Act.put,zA,zB,zC,zD,zE,zF]
          refine tn 24 rfl rfl (fun _ _ _ h=>h) zh ?_
          try simp only[Act.put,zA,zB,zC,zD,zE,zF]
          refine' tk 25 rfl (fun _ _ _ h=>h) ?cfb25 zh ?_
          case cfb25=>intro wS hS;obtain⟨k0,k1,k2⟩:=hS;go_simp;try rfl
          try simp only[Act.put,zA,zB,zC,zD,zE,zF]
          refine wpAnyH_done (by kernel_rfl) ?_ _
          clear zh
          try simp only[Act.put,zA,zB,zC,zD,zE,zF]
          go_wp2
          go_ret
          exact⟨rfl,HBZ.out⟩
         have hvi:decide ((4096:Int) < (x.2.length:Int))=false:=by simp;omega
         have hvn:decide (4096 < x.2.length)=false:=by simp;omega
         have HDR4:Hid (xsFine [] A.xs=(lt last x.1 && xsFine x.1 (A.xs.drop (i+1)))):=hid (by rw[HDR2.out,decide_eq_true hv,Bool.true_and])
         clear hv HDR2
         by_cases hi0:i=0
         · have hi01:decide ((0:Int) < (i:Int))=false:=by simp;omega
           have hi0n:decide (0 < i)=false:=by simp;omega
           have HDR3:Hid (xsFine [] A.xs=xsFine x.1 (A.xs.drop (i+1))):=hid (by rw[HDR4.out,HL0.out hi0,HLT0.out,Bool.true_and])
           have KS:=KK
           clear hi0
           go_upto_region 14 with(fail)
           refine wp_region_held_drew (S:=(fun w':World=>w'.cell? ⟨wr.heap.size,0,none⟩=some (.string ⟨x.1.toArray⟩)∧w'.cell? ⟨wr.heap.size,1,none⟩=some (.string ⟨x.2.toArray⟩)∧w'.cell? ⟨w.heap.size,6,none⟩=some (.slice (some ⟨b,o,none⟩) A.xs.length vc))) (by kernel_rfl) (KS.out _ (Below.refl _ _).drew) (fun zh=>?_)
           iterate 2
            first|refine' tj 0 rfl rfl (fun _ _ _ h=>h) ?_ zh ?_|refine' tj 1 rfl rfl (fun _ _ _ h=>h) ?_ zh ?_
            rotate_left
            · intro wS hS;obtain⟨k0,k1,k2⟩:=hS;go_simp;try rfl
            try simp only[Act.put,zA,zB,zC,zD,zE,zF]
           refine wpAnyH_ready (rs:=[2]) (by kernel_rfl) (by simp) ?_
           refine AllReadyH.cons rfl (fun K hK=>?_) AllReadyH.nil
           go_simp
           refine CNW.out.mono ?_
           rintro ez wz ⟨rfl,hbz⟩
           have HBZ:=hid (HBN.out.drew.trans (hbz.mono HBN.out.drew.size))
           have HBZ2:Hid (Below w2.heap.size w2 wz):=hid ((Below.refl _ _).drew.trans hbz)
           clear hbz
           go_wp2_with fail
           refine hK.out _ _ (KS.out _ HBZ2.out) ?_
           clear hK K zh
           intro zh
           try simp only[Act.put,zA,zB,zC,zD,zE,zF]
           iterate 11
            first|refine' tj 3 rfl rfl (fun _ _ _ h=>h) ?_ zh ?_|refine' tj 4 rfl rfl (fun _ _ _ h=>h) ?_ zh ?_|refine' tj 5 rfl rfl (fun _ _ _ h=>h) ?_ zh ?_|refine' tj 6 rfl rfl (fun _ _ _ h=>h) ?_ zh ?_|refine' tj 7 rfl rfl (fun _ _ _ h=>h) ?_ zh ?_|refine' tj 8 rfl rfl (fun _ _ _ h=>h) ?_ zh ?_|refine' tj 9 rfl rfl (fun _ _ _ h=>h) ?_ zh ?_|refine' tj 10 rfl rfl (fun _ _ _ h=>h) ?_ zh ?_|refine' tj 11 rfl rfl (fun _ _ _ h=>h) ?_ zh ?_|refine' tj 12 rfl rfl (fun _ _ _ h=>h) ?_ zh ?_|refine' tj 13 rfl rfl (fun _ _ _ h=>h) ?_ zh ?_
            rotate_left
            · intro wS hS;obtain⟨k0,k1,k2⟩:=hS;go_simp;try rfl
            try simp only[Act.put,zA,zB,zC,zD,zE,zF]
           refine tn 14 rfl rfl (fun _ _ _ h=>h) zh ?_
           try simp only[Act.put,zA,zB,zC,zD,zE,zF]
           refine tn 15 rfl rfl (fun _ _ _ h=>h) zh ?_
           try simp only[Act.put,zA,zB,zC,zD,zE,zF]
           refine tn 16 rfl rfl (fun _ _ _ h=>h) zh ?_
           try simp only[Act.put,zA,zB,zC,zD,zE,zF]
           refine tn 17 rfl rfl (fun _ _ _ h=>h) zh ?_
           try simp only[Act.put,zA,zB,zC,zD,zE,zF]
           refine tn 18 rfl rfl (fun _ _ _ h=>h) zh ?_
           try simp only[Act.put,zA,zB,zC,zD,zE,zF]
           refine tn 19 rfl rfl (fun _ _ _ h=>h) zh ?_
           try simp only[Act.put,zA,zB,zC,zD,zE,zF]
           refine tn 20 rfl rfl (fun _ _ _ h=>h) zh ?_
           try simp only[Act.put,zA,zB,zC,zD,zE,zF]
           refine tn 21 rfl rfl (fun _ _ _ h=>h) zh ?_
           try simp only[Act.put,zA,zB,zC,zD,zE,zF]
           refine tn 22 rfl rfl (fun _ _ _ h=>h) zh ?_
           try simp only[Act.put,zA,zB,zC,zD,zE,zF]
           refine tn 23 rfl rfl (fun _ _ _ h=>h) zh ?_
           try simp only[Act.put,zA,zB,zC,zD,zE,zF]
           iterate 2
            first|refine' tj 24 rfl rfl (fun _ _ _ h=>h) ?_ zh ?_|refine' tj 25 rfl rfl (fun _ _ _ h=>h) ?_ zh ?_
            rotate_left
            · intro wS hS;obtain⟨k0,k1,k2⟩:=hS;go_simp;try rfl
            try simp only[Act.put,zA,zB,zC,zD,zE,zF]
           refine wpAnyH_done (by kernel_rfl) ?_ _
           clear zh
           try simp only[Act.put,zA,zB,zC,zD,zE,zF]
           go_wp2
           go_roundw
           case rel=>exact ⟨i+1,x.1,by omega,by go_num,HDR3,hid (fun h=>absurd h (Nat.succ_ne_zero _)),hid (fun _=>by rw[Nat.add_sub_cancel,HX.out];rfl),hid (HBW2.out.trans (HBZ2.out.mono HBW2.out.size))⟩
           case measure=>simp [RowKit.intOf];omega
         · have hi01:decide ((0:Int) < (i:Int))=true:=by simp;omega
           have hi0n:decide (0 < i)=true:=by simp;omega
           have hlast:=HL1.out hi0
           obtain⟨y,hy⟩:∃ y,A.xs[i - 1]? =some y:=⟨_,List.getElem?_eq_getElem (by omega)⟩
           have hyl:y.1=last:=by rw[hy] at hlast;exact Option.some.inj hlast
           have KS:Hid (∀ w',Below w2.heap.size w2 w'→w'.cell? ⟨wr.heap.size,0,none⟩=some (.string ⟨x.1.toArray⟩)∧w'.cell? ⟨wr.heap.size,1,none⟩=some (.string ⟨x.2.toArray⟩)∧w'.cell? ⟨w.heap.size,6,none⟩=some (.slice (some ⟨b,o,none⟩) A.xs.length vc)∧w'.cell? ⟨b,o+(i - 1)*2,none⟩=some (.string ⟨y.1.toArray⟩)):=hid (fun w' hw=>by
            obtain⟨h1,h2,h3⟩:=KK.out w' hw
            exact⟨h1,h2,h3,(HCL.out w' (HBW2.out.trans (hw.mono HBW2.out.size)) (i - 1) y hy).1⟩)
           have HY:=hid hyl
           have hw1:IntKind.i64.wrap ((i:Int) - 1)=((i - 1:Nat):Int):=by rw[IntKind.wrap_i64];omega
           have hi4:((i - 1:Nat):Int) < (A.xs.length:Int):=by omega
           clear hi0 hlast hy hyl
           cases hlt:lt last x.1 with
           |false=>
            have hl0:Op.bytesLess y.1 x.1=false:=by rw[lt_less,HY.out];exact hlt
            have hr:R=1:=NO.out (by rw[HCG.out,HDR4.out,hlt,Bool.false_and])
            subst hr
            clear hlt
            go_upto_region 14 with(fail)
            refine wp_region_held_drew (S:=(fun w':World=>w'.cell? ⟨wr.heap.size,0,none⟩=some (.string ⟨x.1.toArray⟩)∧w'.cell? ⟨wr.heap.size,1,none⟩=some (.string ⟨x.2.toArray⟩)∧w'.cell? ⟨w.heap.size,6,none⟩=some (.slice (some ⟨b,o,none⟩) A.xs.length vc)∧w'.cell? ⟨b,o+(i - 1)*2,none⟩=some (.string ⟨y.1.toArray⟩))) (by kernel_rfl) (KS.out _ (Below.refl _ _).drew) (fun zh=>?_)
            iterate 2
             first|refine' tj 0 rfl rfl (fun _ _ _ h=>h) ?_ zh ?_|refine' tj 1 rfl rfl (fun _ _ _ h=>h) ?_ zh ?_
             rotate_left
             · intro wS hS;obtain⟨k0,k1,k2,k3⟩:=hS;go_simp;try rfl
             try simp only[Act.put,zA,zB,zC,zD,zE,zF]
            refine wpAnyH_ready (rs:=[2]) (by kernel_rfl) (by simp) ?_
            refine AllReadyH.cons rfl (fun K hK=>?_) AllReadyH.nil
            go_simp
            refine CNW.out.mono ?_
            rintro ez wz ⟨rfl,hbz⟩
            have HBZ:=hid (HBN.out.drew.trans (hbz.mono HBN.out.drew.size))
            have HBZ2:Hid (Below w2.heap.size w2 wz):=hid ((Below.refl _ _).drew.trans hbz)
            clear hbz
            go_wp2_with fail
            refine hK.out _ _ (KS.out _ HBZ2.out) ?_
            clear hK K zh
            intro zh
            try simp only[Act.put,zA,zB,zC,zD,zE,zF]
            iterate 10
             first|refine' tj 3 rfl rfl (fun _ _ _ h=>h) ?_ zh ?_|refine' tj 4 rfl rfl (fun _ _ _ h=>h) ?_ zh ?_|refine' tj 5 rfl rfl (fun _ _ _ h=>h) ?_ zh ?_|refine' tj 6 rfl rfl (fun _ _ _ h=>h) ?_ zh ?_|refine' tj 7 rfl rfl (fun _ _ _ h=>h) ?_ zh ?_|refine' tj 8 rfl rfl (fun _ _ _ h=>h) ?_ zh ?_|refine' tj 9 rfl rfl (fun _ _ _ h=>h) ?_ zh ?_|refine' tj 10 rfl rfl (fun _ _ _ h=>h) ?_ zh ?_|refine' tj 11 rfl rfl (fun _ _ _ h=>h) ?_ zh ?_|refine' tj 12 rfl rfl (fun _ _ _ h=>h) ?_ zh ?_
             rotate_left
             · intro wS hS;obtain⟨k0,k1,k2,k3⟩:=hS;go_simp;try rfl
             try simp only[Act.put,zA,zB,zC,zD,zE,zF]
            iterate 4
             first|refine' tj 13 rfl rfl (fun _ _ _ h=>h) ?_ zh ?_|refine' tj 14 rfl rfl (fun _ _ _ h=>h) ?_ zh ?_|refine' tj 15 rfl rfl (fun _ _ _ h=>h) ?_ zh ?_|refine' tj 16 rfl rfl (fun _ _ _ h=>h) ?_ zh ?_
             rotate_left
             · intro wS hS;obtain⟨k0,k1,k2,k3⟩:=hS;go_simp;try rfl
             try simp only[Act.put,zA,zB,zC,zD,zE,zF]
            refine tk 17 rfl (v:=(.int .i64 ((i - 1:Nat):Int))) (fun _ _ _ h=>h) ?cfd17 zh ?_
            case cfd17=>
             intro wS hS
             obtain⟨k0,k1,k2,k3⟩:=hS
             go_simp
             try rw[hw1]
             try rfl
            try simp only[Act.put,zA,zB,zC,zD,zE,zF]
            refine tk 18 rfl (v:=(.pointer (some ⟨b,o+(i - 1)*2,none⟩))) (fun _ _ _ h=>h) ?cfd18 zh ?_
            case cfd18=>intro wS hS;obtain⟨k0,k1,k2,k3⟩:=hS;go_simp;try rfl
            try simp only[Act.put,zA,zB,zC,zD,zE,zF]
            iterate 7
             first|refine' tj 19 rfl rfl (fun _ _ _ h=>h) ?_ zh ?_|refine' tj 20 rfl rfl (fun _ _ _ h=>h) ?_ zh ?_|refine' tj 21 rfl rfl (fun _ _ _ h=>h) ?_ zh ?_|refine' tj 22 rfl rfl (fun _ _ _ h=>h) ?_ zh ?_|refine' tj 23 rfl rfl (fun _ _ _ h=>h) ?_ zh ?_|refine' tj 24 rfl rfl (fun _ _ _ h=>h) ?_ zh ?_|refine' tj 25 rfl rfl (fun _ _ _ h=>h) ?_ zh ?_
             rotate_left
             · intro wS hS;obtain⟨k0,k1,k2,k3⟩:=hS;go_simp;try rfl
             try simp only[Act.put,zA,zB,zC,zD,zE,zF]
            refine wpAnyH_done (by kernel_rfl) ?_ _
            clear zh
            try simp only[Act.put,zA,zB,zC,zD,zE,zF]
            go_wp2
            go_ret
            exact⟨rfl,HBZ.out⟩
           |true=>
            have hl0:Op.bytesLess y.1 x.1=true:=by rw[lt_less,HY.out];exact hlt
            have HDR3:Hid (xsFine [] A.xs=xsFine x.1 (A.xs.drop (i+1))):=hid (by rw[HDR4.out,hlt,Bool.true_and])
            clear hlt
            go_upto_region 14 with(fail)
            refine wp_region_held_drew (S:=(fun w':World=>w'.cell? ⟨wr.heap.size,0,none⟩=some (.string ⟨x.1.toArray⟩)∧w'.cell? ⟨wr.heap.size,1,none⟩=some (.string ⟨x.2.toArray⟩)∧w'.cell? ⟨w.heap.size,6,none⟩=some (.slice (some ⟨b,o,none⟩) A.xs.length vc)∧w'.cell? ⟨b,o+(i - 1)*2,none⟩=some (.string ⟨y.1.toArray⟩))) (by kernel_rfl) (KS.out _ (Below.refl _ _).drew) (fun zh=>?_)
            iterate 2
             first|refine' tj 0 rfl rfl (fun _ _ _ h=>h) ?_ zh ?_|refine' tj 1 rfl rfl (fun _ _ _ h=>h) ?_ zh ?_
             rotate_left
             · intro wS hS;obtain⟨k0,k1,k2,k3⟩:=hS;go_simp;try rfl
             try simp only[Act.put,zA,zB,zC,zD,zE,zF]
            refine wpAnyH_ready (rs:=[2]) (by kernel_rfl) (by simp) ?_
            refine AllReadyH.cons rfl (fun K hK=>?_) AllReadyH.nil
            go_simp
            refine CNW.out.mono ?_
            rintro ez wz ⟨rfl,hbz⟩
            have HBZ:=hid (HBN.out.drew.trans (hbz.mono HBN.out.drew.size))
            have HBZ2:Hid (Below w2.heap.size w2 wz):=hid ((Below.refl _ _).drew.trans hbz)
            clear hbz
            go_wp2_with fail
            refine hK.out _ _ (KS.out _ HBZ2.out) ?_
            clear hK K zh
            intro zh
            try simp only[Act.put,zA,zB,zC,zD,zE,zF]
            iterate 10
             first|refine' tj 3 rfl rfl (fun _ _ _ h=>h) ?_ zh ?_|refine' tj 4 rfl rfl (fun _ _ _ h=>h) ?_ zh ?_|refine' tj 5 rfl rfl (fun _ _ _ h=>h) ?_ zh ?_|refine' tj 6 rfl rfl (fun _ _ _ h=>h) ?_ zh ?_|refine' tj 7 rfl rfl (fun _ _ _ h=>h) ?_ zh ?_|refine' tj 8 rfl rfl (fun _ _ _ h=>h) ?_ zh ?_|refine' tj 9 rfl rfl (fun _ _ _ h=>h) ?_ zh ?_|refine' tj 10 rfl rfl (fun _ _ _ h=>h) ?_ zh ?_|refine' tj 11 rfl rfl (fun _ _ _ h=>h) ?_ zh ?_|refine' tj 12 rfl rfl (fun _ _ _ h=>h) ?_ zh ?_
             rotate_left
             · intro wS hS;obtain⟨k0,k1,k2,k3⟩:=hS;go_simp;try rfl
             try simp only[Act.put,zA,zB,zC,zD,zE,zF]
            iterate 4
             first|refine' tj 13 rfl rfl (fun _ _ _ h=>h) ?_ zh ?_|refine' tj 14 rfl rfl (fun _ _ _ h=>h) ?_ zh ?_|refine' tj 15 rfl rfl (fun _ _ _ h=>h) ?_ zh ?_|refine' tj 16 rfl rfl (fun _ _ _ h=>h) ?_ zh ?_
             rotate_left
             · intro wS hS;obtain⟨k0,k1,k2,k3⟩:=hS;go_simp;try rfl
             try simp only[Act.put,zA,zB,zC,zD,zE,zF]
            refine tk 17 rfl (v:=(.int .i64 ((i - 1:Nat):Int))) (fun _ _ _ h=>h) ?cfe17 zh ?_
            case cfe17=>
             intro wS hS
             obtain⟨k0,k1,k2,k3⟩:=hS
             go_simp
             try rw[hw1]
             try rfl
            try simp only[Act.put,zA,zB,zC,zD,zE,zF]
            refine tk 18 rfl (v:=(.pointer (some ⟨b,o+(i - 1)*2,none⟩))) (fun _ _ _ h=>h) ?cfe18 zh ?_
            case cfe18=>intro wS hS;obtain⟨k0,k1,k2,k3⟩:=hS;go_simp;try rfl
            try simp only[Act.put,zA,zB,zC,zD,zE,zF]
            iterate 7
             first|refine' tj 19 rfl rfl (fun _ _ _ h=>h) ?_ zh ?_|refine' tj 20 rfl rfl (fun _ _ _ h=>h) ?_ zh ?_|refine' tj 21 rfl rfl (fun _ _ _ h=>h) ?_ zh ?_|refine' tj 22 rfl rfl (fun _ _ _ h=>h) ?_ zh ?_|refine' tj 23 rfl rfl (fun _ _ _ h=>h) ?_ zh ?_|refine' tj 24 rfl rfl (fun _ _ _ h=>h) ?_ zh ?_|refine' tj 25 rfl rfl (fun _ _ _ h=>h) ?_ zh ?_
             rotate_left
             · intro wS hS;obtain⟨k0,k1,k2,k3⟩:=hS;go_simp;try rfl
             try simp only[Act.put,zA,zB,zC,zD,zE,zF]
            refine wpAnyH_done (by kernel_rfl) ?_ _
            clear zh
            try simp only[Act.put,zA,zB,zC,zD,zE,zF]
            go_wp2
            go_roundw
            case rel=>exact ⟨i+1,x.1,by omega,by go_num,HDR3,hid (fun h=>absurd h (Nat.succ_ne_zero _)),hid (fun _=>by rw[Nat.add_sub_cancel,HX.out];rfl),hid (HBW2.out.trans (HBZ2.out.mono HBW2.out.size))⟩
            case measure=>simp [RowKit.intOf];omega
      · obtain rfl:i=A.xs.length:=by omega
        have hr:R=0:=by
         rw[HCA.out,HCG.out,HF.out,List.drop_length];rfl
        subst hr
        go_wp2
        go_ret
        exact⟨rfl,HBF.out⟩
end Go.Proofs.YtnmejonfdfdegaaGreatDoor.Sr
