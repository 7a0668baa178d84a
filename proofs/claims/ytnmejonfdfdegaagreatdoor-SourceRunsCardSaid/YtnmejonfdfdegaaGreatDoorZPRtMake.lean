import Derived.Test.YtnmejonfdfdegaaGreatDoorZPZz
import Derived.Test.YtnmejonfdfdegaaGreatDoorZPRtPut
import Derived.Test.YtnmejonfdfdegaaGreatDoorZPRtCheck
set_option linter.unusedSimpArgs false
set_option linter.unusedVariables false
set_option maxHeartbeats 16000000
set_option maxRecDepth 100000
namespace Go.Proofs.YtnmejonfdfdegaaGreatDoor.Sr
open Go.RowKit Go.Maps Go.WideMaps Rf Go.Proofs.YtnmejonfdfdegaaGreatDoor.Nm St
open Lib (hid)
theorem built_rn (a:Option Addr) (n c:Nat) (A:XA) (x:Option Addr) (xn xc:Nat) (d:ByteArray) (i t:Int):
 Tryz.prog.built RnT [(0,.slice a n c),(1,.agg (A.cells (.slice x xn xc)).toArray),(2,.string d),(3,.int .u64 i),(4,.int .i64 t)]=some (Value.slice a n c::(A.cells (.slice x xn xc)++[.string d,.int .u64 i,.int .i64 t])).toArray:=by kernel_rfl
theorem exec_rn {o:Oper} {a:Act} {w:World} {x0 x1 x2 x3 x4:Operand} (na:Option Addr) (nn nc:Nat) (A:XA) (x:Option Addr) (xn xc:Nat) (d:ByteArray) (i t:Int) (ho:o.op= .build RnT #[(0,x0),(1,x1),(2,x2),(3,x3),(4,x4)])
 (h0:a.eval x0= .slice na nn nc) (h1:a.eval x1= .agg (A.cells (.slice x xn xc)).toArray) (h2:a.eval x2= .string d) (h3:a.eval x3= .int .u64 i) (h4:a.eval x4= .int .i64 t):
 (execOp a.eval o).run Tryz.prog w= .ok (.value (.agg (Value.slice na nn nc::(A.cells (.slice x xn xc)++[.string d,.int .u64 i,.int .i64 t])).toArray)) w:=by
 have hb:=run_build (P:=Tryz.prog) w RnT #[(0,.slice na nn nc),(1,.agg (A.cells (.slice x xn xc)).toArray),(2,.string d),(3,.int .u64 i),(4,.int .i64 t)] _ (built_rn na nn nc A x xn xc d i t)
 unfold execOp
 simp only[ho,List.map_toArray,List.map_cons,List.map_nil,h0,h1,h2,h3,h4,Sem.run_bind,hb,Result.andThen_ok]
 rfl
theorem add_codes (p d:List UInt8) (A:XA) (F:Tr) (h0:splitE p=0) (hc:F.clock < 1099511627776):addE p d A F=if chkA A=false∨1048576 < d.length then 1 else if (getT (splitL p) F.L).isSome then 7
 else if abvE (splitL p) F.L≠0 then abvE (splitL p) F.L else if 256≤(kidsT F.L (splitL p).dropLast).length then 3 else 0:=by
 rw[addE,if_neg (by rw[h0];decide)]
 have:(256≤(kidsT F.L (splitL p).dropLast).length∨1099511627776≤F.clock) ↔ 256≤(kidsT F.L (splitL p).dropLast).length:=⟨fun h=>h.resolve_right (by omega),.inl⟩
 simp only[this]
theorem add_list {p d:List UInt8} {A:XA} {F:Tr} {c:Nat} (hno:getT (splitL p) F.L=none):tickN [(splitL p).dropLast] ((c:Nat):Int) (insT ⟨splitL p,F.most+1,((c:Nat):Int),A,d,0,none,.slice none 0 0⟩ F.L)=tickN [splitL p,(splitL p).dropLast] ((c:Nat):Int) (insT ⟨splitL p,F.most+1,0,A,d,0,none,.slice none 0 0⟩ F.L):=by
 rw[tickN_two]
 have h:=tickN_ins (e:=⟨splitL p,F.most+1,0,A,d,0,none,.slice none 0 0⟩) (c:=(c:Int)) (L:=F.L) (fun x hx=>getT_none.1 hno x hx)
 dsimp only at h
 rw[h]
theorem rmake_any (B:Nat) (w:World) (r:Nat) (v:Value) (R:List RN) (F:Tr) (k:Nat) (p d:List UInt8) (A:XA) (av:Value) (hT:Tabs w) (hp:p.length≤4611686018427387904) (hd:d.length≤4611686018427387904) (hX:XsAt w av A.xs) (hXr:∀ b∈xob A.xs av,b≠r) (hg:GoodF k F) (hk:k≤1000) (hc:F.clock≤1000000) (hB:B≤w.heap.size) (h:RTree B w r v R F):
 Calls Tryz.prog 29 #[ptr r,.string ⟨p.toArray⟩,.string ⟨d.toArray⟩,.agg (A.cells av).toArray] w (RPost B w r v R (if addE p d A F=0 then addN p d A F else F) (addE p d A F)):=by
 obtain⟨W,hW⟩:∃ W,W=w.alloc (.cells (A.cells av).toArray AtR):=⟨_,rfl⟩
 have hb0:Below w.heap.size w W:=by rw[hW];exact(Below.refl _ _).alloc (Nat.le_refl _) _
 have hq0:W.heap[w.heap.size]? =some (.cells (A.cells av).toArray AtR):=by rw[hW];exact(MapKept.heap_alloc w _).1
 have H:=hid h
 have H0:=hid (h.below hb0)
 have HT:=hid (hT.below hb0)
 have HX0:=hid (hX.kept hb0.size (fun b hb=>hb0.block b (hX.lt b hb)))
 have HB0:=hid hb0;have HW:=hid hW;have HG:=hid hg;have HXR:=hid hXr
 have HQ:Hid (∀ w',Below W.heap.size W w'→w'.heap[w.heap.size]? =some (.cells (A.cells av).toArray AtR)):=hid (fun w' hb=>(hb.block _ (lt_of_heap hq0)).trans hq0)
 have hlen:R.length≤1000000:=by rw[h.len];have:=hg.len;omega
 have HBW:=hid (Nat.le_trans hB hb0.size)
 obtain⟨F2,hF2⟩:∃ F2,F2=if addE p d A F=0 then addN p d A F else F:=⟨_,rfl⟩
 obtain⟨c2,hc2⟩:∃ c2,c2=addE p d A F:=⟨_,rfl⟩
 rw[←hF2,←hc2]
 have NOX:Hid (∀ (w1:World) (c:Int),Below W.heap.size W w1→addE p d A F=c→c≠0→RPost B w r v R F2 c2 (.returned (.int .i64 c)) w1):=hid (fun w1 c hb he hn=>by
  rw[hF2,hc2,if_neg (by rw[he];exact hn),he]
  exact rpost_same H.out (hb0.trans (hb.mono hb0.size)) rfl)
 have YES:Hid (∀ (w1:World),addE p d A F=0→RPost B w r v R (addN p d A F) 0 (.returned (.int .i64 0)) w1→RPost B w r v R F2 c2 (.returned (.int .i64 0)) w1):=hid (fun w1 he h=>by
  rw[hF2,hc2,if_pos he,he];exact h)
 have HCLK:Hid (F.clock < 1099511627776):=hid (by omega)
 have hclk:¬ ((F.clock:Int)=1099511627776):=by omega
 have hclk2:((F.clock:Int)==1099511627776)=false:=by rw[beq_eq_false_iff_ne];omega
 have hmost:F.most≤1001:=by have:=hg.most;omega
 obtain⟨ava,avc,rfl⟩:∃ a c,av= .slice a A.xs.length c:=by obtain⟨a,c,rfl,_⟩:=hX;exact⟨_,_,rfl⟩
 obtain⟨va,vc,rfl⟩:=rowS_slice h.row
 have SP:=ref_split ⟨p.toArray⟩ W HT.out hp
 rw[show (⟨p.toArray⟩:ByteArray).data.toList=p from by simp] at SP
 have SP:=hid SP
 have hds:(⟨d.toArray⟩:ByteArray).size=d.length:=rfl
 clear hb0 hq0 hW h hT hX hg hB hXr hF2 hc2
 have hlw:∀ w1,Below W.heap.size W w1→B≤w1.heap.size:=fun w1 hb=>Nat.le_trans HBW.out hb.size
 have HLW:=hid hlw
 clear hlw
 unfold ptr at*
 go_enter Tryz.func29,Tryz.ntmps29
 go_wp2_with fail
 rw[←HW.out]
 refine SP.out.mono ?_
 rintro ex w1 ⟨vl,rfl,hr1,hb1⟩
 have HP:=hid (rsplit_path hr1)
 have HB1:=hid hb1
 obtain⟨la,lc,rfl⟩:=rowS_slice hr1
 clear hr1 hb1 SP
 rcases(splitE_cases p).symm with⟨h0,_⟩|h0
 · have HC:=hid (show addE p d A F=10 by rw[addE,if_pos (by rw[h0];decide)])
   rw[h0]
   clear h0
   go_wp2
   go_ret
   exact NOX.out _ _ HB1.out HC.out (by decide)
 have HAC:=hid (add_codes p d A F h0 HCLK.out)
 rw[h0]
 clear h0
 have CK:=rchk_any w1 A _ (HT.out.below HB1.out) (HX0.out.kept HB1.out.size (fun b hb=>HB1.out.block b (HX0.out.lt b hb)))
 rw[chkAE] at CK
 have HQ1:=hid (HQ.out w1 HB1.out)
 rcases(Bool.eq_false_or_eq_true (chkA A)).symm with hck|hck
 · have HC:=hid (show addE p d A F=1 by rw[HAC.out,if_pos (.inl hck)])
   rw[hck,if_neg (by decide)] at CK
   have CK:=hid CK
   clear hck HAC
   go_wp2_with (first
    |(refine Sh.wpList_load_at (T:=AtR) (cs:=(A.cells (.slice ava A.xs.length avc)).toArray) HQ1.out rfl AtR (.tmp 7) rfl rfl _ Tryz.underlying67 rfl (infoAtR _ _) ?_)
    |fail)
   refine CK.out.mono ?_
   rintro ex w2 ⟨rfl,hb2⟩
   have HB2:=hid (HB1.out.trans (hb2.mono HB1.out.size))
   clear hb2 CK
   go_wp2
   go_ret
   exact NOX.out _ _ HB2.out HC.out (by decide)
 rw[hck,if_pos rfl] at CK
 have CK:=hid CK
 go_wp2_with (first
  |(refine Sh.wpList_load_at (T:=AtR) (cs:=(A.cells (.slice ava A.xs.length avc)).toArray) HQ1.out rfl AtR (.tmp 7) rfl rfl _ Tryz.underlying67 rfl (infoAtR _ _) ?_)
  |fail)
 refine CK.out.mono ?_
 rintro ex w2 ⟨rfl,hb2⟩
 have HB2:=hid (HB1.out.trans (hb2.mono HB1.out.size))
 have HP2:=hid (HP.out.below hb2)
 clear hb2 CK
 by_cases hdl:1048576 < d.length
 · have HC:=hid (show addE p d A F=1 by rw[HAC.out,if_pos (.inr hdl)])
   have hdi:(1048576:Int) < (d.length:Int):=by omega
   clear hdl HAC hck
   go_wp2
   go_ret
   exact NOX.out _ _ HB2.out HC.out (by decide)
 have hdi:¬ (1048576:Int) < (d.length:Int):=by omega
 have HAD:=hid (show addE p d A F=_ by rw[HAC.out,if_neg (by rw[hck];simpa using hdl)])
 have HCK:=hid hck
 clear hdl HAC hck
 have AT:=rat_any B w2 r _ R F _ (splitL p) HP2.out.strs HG.out.srt hlen (H0.out.below HB2.out)
 rcases(atI_cases (splitL p) HG.out.srt).symm with⟨j,e,hI,_,_,hgs⟩|⟨hI,hgn⟩
 · have HC:=hid (show addE p d A F=7 by rw[HAD.out,hgs];rfl)
   rw[hI] at AT
   have AT:=hid AT
   have hji:(0:Int)≤(j:Int):=by omega
   unfold ptr at AT
   clear hI hgs HAD
   go_wp2_with fail
   refine AT.out.mono ?_
   rintro ex w3 ⟨rfl,hb3⟩
   have HB3:=hid (HB2.out.trans (hb3.mono HB2.out.size))
   clear hb3 AT
   go_wp2
   go_ret
   exact NOX.out _ _ HB3.out HC.out (by decide)
 have HAD2:=hid (show addE p d A F=_ by rw[HAD.out,hgn,Option.isSome_none,if_neg (by decide)])
 have HGN2:=hid hgn
 rw[hI] at AT
 have AT:=hid AT
 unfold ptr at AT
 have hne:splitL p≠[]:=fun h0=>by
  obtain⟨e0,he0⟩:=HG.out.root
  rw[h0,he0] at hgn;cases hgn
 have HNE:=hid hne
 have hl1:1≤(splitL p).length:=by have:=List.length_pos_iff.2 hne;omega
 clear hI hgn HAD hne
 go_wp2_with fail
 refine AT.out.mono ?_
 rintro ex w3 ⟨rfl,hb3⟩
 have HB3:=hid (HB2.out.trans (hb3.mono HB2.out.size))
 have HP3:=hid (HP2.out.below hb3)
 clear hb3 AT
 have FO:=rfolder_any B w.heap.size w3 r _ R F _ (splitL p) HNE.out (by exact⟨row_mono HP3.out.row (by have:=HB0.out.size;exact this),HP3.out.len⟩) HG.out.srt hlen (H0.out.below HB3.out)
 have FO:=hid FO
 unfold ptr at FO
 by_cases hab:abvE (splitL p) F.L=0
 case neg=>
  have HC:=hid (show addE p d A F=abvE (splitL p) F.L by rw[HAD2.out,if_pos hab])
  have HAB:=hid hab
  have hab1:(abvE (splitL p) F.L==0)=false:=by simpa using hab
  have hab2:(abvE (splitL p) F.L !=0)=true:=by simpa using hab
  generalize abvE (splitL p) F.L=ab at*
  clear hab HAD2
  go_wp2_with fail
  refine FO.out.mono ?_
  rintro ex w4 ⟨rfl,hb4⟩
  have HB4:=hid (HB3.out.trans (hb4.mono HB3.out.size))
  clear hb4 FO
  go_wp2
  go_ret
  exact NOX.out _ _ HB4.out HC.out HAB.out
 have HAD3:=hid (show addE p d A F=if 256≤(kidsT F.L (splitL p).dropLast).length then 3 else 0 by rw[HAD2.out,if_neg (by rw[hab];decide)])
 obtain⟨u,hu,hun⟩:∃ u,getT (splitL p).dropLast F.L=some u∧u.at_.node=2:=by
  rw[abvE] at hab
  cases hg:getT (splitL p).dropLast F.L with
  |none=>rw [hg] at hab;cases hab
  |some u=>rw [hg] at hab;dsimp only at hab;exact⟨u,rfl,by by_cases h2:u.at_.node=2;exact h2;rw[if_neg h2] at hab;cases hab⟩
 have HU:=hid hu
 rw[hab] at FO
 clear hab HAD2 hu hun
 go_wp2_with fail
 refine FO.out.mono ?_
 rintro ex w4 ⟨rfl,hb4⟩
 have HB4:=hid (HB3.out.trans (hb4.mono HB3.out.size))
 have HP4:=hid (HP3.out.below hb4)
 clear hb4 FO
 obtain⟨gl,lc2,hvl,hlc,hlm,hst⟩:=HP4.out.front HNE.out
 injection hvl with e1 e2 e3
 subst e1 e3
 have HUP:Hid (∀ w',Below w4.heap.size w4 w'→St.StrsAt w' (.slice (some ⟨gl,0,none⟩) ((splitL p).length - 1) lc) (splitL p).dropLast):=hid (fun w' hw=>hst.below hw)
 have hdl16:(splitL p).dropLast.length≤1000000:=by have:=splitL_16 p;rw[List.length_dropLast];omega
 have hlm2:(splitL p).length≤maxLen:=Nat.le_trans hlc hlm
 unfold maxLen at hlm hlm2
 have HKD:=hid (rkids_any B w4 r _ R F _ (splitL p).dropLast (HUP.out w4 (Below.refl _ _)) hdl16 hlen (H0.out.below HB4.out))
 unfold ptr at HKD
 have hsub:(((splitL p).length - 1:Nat):Int)=((splitL p).length:Int) - 1:=by omega
 clear e2 hst
 by_cases hk2:256≤(kidsT F.L (splitL p).dropLast).length
 · have HC:=hid (show addE p d A F=3 by rw[HAD3.out,if_pos hk2])
   have hki:(256:Int)≤((kidsT F.L (splitL p).dropLast).length:Int):=by omega
   generalize (kidsT F.L (splitL p).dropLast).length=kl at*
   clear hk2 HAD3
   go_wp2_with fail
   refine HKD.out.mono ?_
   rintro ex w5 ⟨rfl,hb5⟩
   have HB5:=hid (HB4.out.trans (hb5.mono HB4.out.size))
   clear hb5 HKD
   go_wp2
   go_ret
   exact NOX.out _ _ HB5.out HC.out (by decide)
 have HC:=hid (show addE p d A F=0 by rw[HAD3.out,if_neg hk2])
 have hki:¬ (256:Int)≤((kidsT F.L (splitL p).dropLast).length:Int):=by omega
 generalize (kidsT F.L (splitL p).dropLast).length=kl at*
 clear hk2 HAD3
 go_wp2_with fail
 refine HKD.out.mono ?_
 rintro ex w5 ⟨rfl,hb5⟩
 have HB5:=hid (HB4.out.trans (hb5.mono HB4.out.size))
 have HX5:=hid (H0.out.below HB5.out)
 have HP5:=hid (HP4.out.below hb5)
 have HUP5:Hid (∀ w',Below w5.heap.size w5 w'→St.StrsAt w' (.slice (some ⟨gl,0,none⟩) ((splitL p).length - 1) lc) (splitL p).dropLast):=hid (fun w' hw=>HUP.out w' (hb5.trans (hw.mono hb5.size)))
 have hc0:w5.cell? ⟨r,0,none⟩=some (.slice va R.length vc):=cell_of_heap HX5.out.book
 have hc1:w5.cell? ⟨r,1,none⟩=some (.int .i64 (F.clock:Int)):=cell_of_heap HX5.out.book
 have hc2:w5.cell? ⟨r,2,none⟩=some (.int .u64 (F.most:Int)):=cell_of_heap HX5.out.book
 have hf1:w5.frozen? ⟨r,1,none⟩=false:=frozen_of_heap HX5.out.book
 -- the clock and the greatest number
 obtain⟨W6,hW6⟩:∃ W6,W6=(w5.setCell ⟨r,1,none⟩ (.int .i64 ((F.clock:Int)+1))).setCell ⟨r,2,none⟩ (.int .u64 ((F.most:Int)+1)):=⟨_,rfl⟩
 have hX5c:=HX5.out.clocked (F.clock+1)
 have hX6:RTree B W6 r (.slice va R.length vc) R {F with clock:=F.clock+1,most:=F.most+1}:=by
  have:=hX5c.mosted (F.most+1)
  rw[hW6]
  rw[Int.natCast_add,Int.natCast_add] at this
  exact this
 have hc2':(w5.setCell ⟨r,1,none⟩ (.int .i64 ((F.clock:Int)+1))).cell? ⟨r,2,none⟩=some (.int .u64 (F.most:Int)):=by
  rw[Int.natCast_add] at hX5c
  exact cell_of_heap hX5c.book
 have hf2:(w5.setCell ⟨r,1,none⟩ (.int .i64 ((F.clock:Int)+1))).frozen? ⟨r,2,none⟩=false:=by
  rw[Int.natCast_add] at hX5c
  exact frozen_of_heap hX5c.book
 have hT6:Turn [r] w5 W6:=by rw[hW6];exact((Turn.refl [r] w5).setCell (p:=⟨r,1,none⟩) (.inl (by simp)) _).setCell (p:=⟨r,2,none⟩) (.inl (by simp)) _
 have hs6:W6.heap.size=w5.heap.size:=by rw[hW6,World.size_setCell,World.size_setCell]
 have hrb:r < w.heap.size:=lt_of_heap H.out.book
 have HW6:=hid hW6;have HX6:=hid hX6;have HT6:=hid hT6;have HS6:=hid hs6;have HRB:=hid hrb
 have hq6:W6.heap[w.heap.size]? =some (.cells (A.cells (.slice ava A.xs.length avc)).toArray AtR):=by
  have h5:=HQ.out w5 HB5.out
  exact(hT6.block _ (lt_of_heap h5) (by simp;omega)).trans h5
 have HQ6:Hid (∀ w',Below W6.heap.size W6 w'→w'.heap[w.heap.size]? =some (.cells (A.cells (.slice ava A.xs.length avc)).toArray AtR)):=hid (fun w' hb=>(hb.block _ (lt_of_heap hq6)).trans hq6)
 have HR6:Hid (∀ w',Below W6.heap.size W6 w'→w'.cell? ⟨r,1,none⟩=some (.int .i64 ((F.clock:Int)+1))∧w'.cell? ⟨r,2,none⟩=some (.int .u64 ((F.most:Int)+1))):=hid (fun w' hb=>by
  have h1:=(hX6.below hb).book
  dsimp only at h1
  rw[Int.natCast_add,Int.natCast_add] at h1
  exact⟨cell_of_heap h1,cell_of_heap h1⟩)
 have hP6:PathAt W.heap.size W6 (.slice (some ⟨gl,0,none⟩) (splitL p).length lc) (splitL p):=HP5.out.kept (fun b hb=>hT6.block b (rowS_lt HP5.out.row b hb) (by
  have:=rowS_ge HP5.out.row b hb
  have:=HB0.out.size
  simp;omega))
 have HP6:=hid hP6
 have hX6a:XsAt W6 (.slice ava A.xs.length avc) A.xs:=by
  have h5:=HX0.out.kept HB5.out.size (fun b hb=>HB5.out.block b (HX0.out.lt b hb))
  exact h5.kept (Nat.le_of_eq hs6.symm) (fun b hb=>hT6.block b (h5.lt b hb) (by simpa using HXR.out b hb))
 have HX6A:=hid hX6a
 clear hb5 HKD hX6 hT6 hs6 hq6 hP6 hX6a hX5c hW6 hrb
 have hxl16:A.xs.length≤1000:=by have:=(chkA_parts HCK.out).2.2.1;omega
 have OW:=hid (rown_any W6.drew A (.slice ava A.xs.length avc) (HX6A.out.kept (Nat.le_refl _) (fun _ _=>rfl)) hxl16)
 obtain⟨cc,hcc⟩:∃ cc:Int,cc=((F.clock+1:Nat):Int):=⟨_,rfl⟩
 obtain⟨mm,hmm⟩:∃ mm:Int,mm=((F.most+1:Nat):Int):=⟨_,rfl⟩
 have KS:Hid (∀ w',Below W6.heap.size W6 w'→w'.rangeAt w.heap.size 0 (A.cells (.slice ava A.xs.length avc))∧w'.cell? ⟨r,1,none⟩=some (.int .i64 cc)∧w'.cell? ⟨r,2,none⟩=some (.int .u64 mm)):=hid (fun w' hb=>by
  obtain⟨h1,h2⟩:=HR6.out w' hb
  rw[hcc,hmm,Int.natCast_add,Int.natCast_add]
  exact⟨range_block (HQ6.out w' hb),h1,h2⟩)
 have HCC:=hid hcc;have HMM:=hid hmm
 have HAI:Hid ((Tryz.prog.info? AtR).map (·.size)=some (A.cells (.slice ava A.xs.length avc)).length):=hid (by show _=some 7;kernel_rfl)
 clear hcc hmm
 go_upto_region 16 with(fail)
 rw[←HW6.out]
 refine wp_region_held_drew (S:=(fun w':World=>w'.rangeAt w.heap.size 0 (A.cells (.slice ava A.xs.length avc))∧w'.cell? ⟨r,1,none⟩=some (.int .i64 cc)∧w'.cell? ⟨r,2,none⟩=some (.int .u64 mm))) (by kernel_rfl) (KS.out _ (Below.refl _ _).drew) (fun zh=>?_)
 iterate 2
  first|refine' tj 0 rfl rfl (fun _ _ _ h=>h) ?_ zh ?_|refine' tj 1 rfl rfl (fun _ _ _ h=>h) ?_ zh ?_
  rotate_left
  · intro wS hS;obtain⟨k0,k1,k2⟩:=hS;go_simp;try rfl
  try simp only[Act.put,zA,zB,zC,zD,zE,zF]
 refine' wpAnyH_take (i:=2) (v:=_) rfl (by kernel_rfl) (by kernel_rfl) (by kernel_rfl) (fun _ _ _ h=>h) (yieldsIf_load_mid (by rfl) _ _ rfl w.heap.size 0 rfl (A.cells (.slice ava A.xs.length avc)) _ ?mk2S ?mk2u ?mk2d ?mk2i) zh ?mk2x
 case mk2S=>intro wS hS;obtain⟨k0,k1,k2⟩:=hS;exact k0
 case mk2u=>exact Tryz.underlying67
 case mk2d=>rfl
 case mk2i=>exact HAI.out
 try simp only[Act.put,zA,zB,zC,zD,zE,zF]
 iterate 9
  first|refine' tj 4 rfl rfl (fun _ _ _ h=>h) ?_ zh ?_|refine' tj 5 rfl rfl (fun _ _ _ h=>h) ?_ zh ?_|refine' tj 6 rfl rfl (fun _ _ _ h=>h) ?_ zh ?_|refine' tj 7 rfl rfl (fun _ _ _ h=>h) ?_ zh ?_|refine' tj 8 rfl rfl (fun _ _ _ h=>h) ?_ zh ?_|refine' tj 9 rfl rfl (fun _ _ _ h=>h) ?_ zh ?_|refine' tj 10 rfl rfl (fun _ _ _ h=>h) ?_ zh ?_|refine' tj 11 rfl rfl (fun _ _ _ h=>h) ?_ zh ?_|refine' tj 12 rfl rfl (fun _ _ _ h=>h) ?_ zh ?_
  rotate_left
  · intro wS hS;obtain⟨k0,k1,k2⟩:=hS;go_simp;try rfl
  try simp only[Act.put,zA,zB,zC,zD,zE,zF]
 refine wpAnyH_ready (rs:=[3]) (by kernel_rfl) (by simp) ?_
 refine AllReadyH.cons rfl (fun K hK=>?_) AllReadyH.nil
 go_simp
 refine OW.out.mono ?_
 rintro ez wz ⟨vz,rfl,hxz,hgz,hbz⟩
 have HXZ:=hid hxz;have HGZ:=hid hgz
 have HBZ:Hid (Below W6.heap.size W6 wz):=hid ((Below.refl W6.heap.size W6).drew.trans hbz)
 obtain⟨oa,oc,rfl⟩:∃ a c,vz= .slice a A.xs.length c:=by obtain⟨a,c,h,_⟩:=hxz;exact⟨a,c,h⟩
 clear hbz hxz hgz
 go_wp2_with fail
 refine hK.out _ _ (KS.out _ HBZ.out) ?_
 clear hK K zh
 intro zh
 try simp only[Act.put,zA,zB,zC,zD,zE,zF]
 refine tk 13 rfl (v:=(.agg (Value.slice (some ⟨gl,0,none⟩) (splitL p).length lc::(A.cells (.slice oa A.xs.length oc)++[.string ⟨d.toArray⟩,.int .u64 mm,.int .i64 cc])).toArray)) (fun _ _ _ h=>h) ?mk13 zh ?_
 case mk13=>
  intro wS hS
  obtain⟨k0,k1,k2⟩:=hS
  refine exec_rn (x0:= .tmp 69) (x1:= .tmp 71) (x2:= .tmp 72) (x3:= .tmp 76) (x4:= .tmp 80) _ _ _ A _ _ _ _ _ _ rfl ?_ ?_ ?_ ?_ ?_ <;> rfl
 try simp only[Act.put,zA,zB,zC,zD,zE,zF]
 refine wpAnyH_ready (rs:=[14]) (by kernel_rfl) (by simp) ?_
 refine AllReadyH.cons rfl (fun K hK=>?_) AllReadyH.nil
 obtain⟨N,hN⟩:∃ N:RN,N=⟨splitL p,F.most+1,cc,A,d,.slice (some ⟨gl,0,none⟩) (splitL p).length lc,.slice oa A.xs.length oc⟩:=⟨_,rfl⟩
 have HN:=hid hN
 have HXZ6:=hid (HX6.out.below HBZ.out)
 have hpN:PathAt W.heap.size wz N.nv N.nm:=by rw[hN];exact HP6.out.below HBZ.out
 have hxN:XsAt wz N.xv N.at_.xs:=by rw[hN];exact HXZ.out
 have hgN:∀ b∈robN N,W.heap.size≤b:=fun b hb=>by
  rcases List.mem_append.1 hb with hb|hb
  · exact rowS_ge hpN.row b hb
  · rw[hN] at hb;have h1:=HGZ.out b hb;have h2:=HS6.out;have h3:=HB5.out.size;exact Nat.le_trans (Nat.le_trans h3 (Nat.le_of_eq h2.symm)) h1
 have HGN:=hid hgN
 have PU:=put_any B wz r _ R _ N ⟨row_mono hpN.row HBW.out,hpN.len⟩ hxN (fun b hb=>⟨Nat.le_trans HBW.out (hgN b hb),by have h1:=hgN b hb;have h2:=HRB.out;have h3:=HB0.out.size;omega⟩) (Nat.le_trans (HLW.out w5 HB5.out) (by have h1:=HS6.out;have h2:=HBZ.out.size;omega)) hlen HXZ6.out
 have hcells:rnV N= .agg (Value.slice (some ⟨gl,0,none⟩) (splitL p).length lc::(A.cells (.slice oa A.xs.length oc)++[.string ⟨d.toArray⟩,.int .u64 mm,.int .i64 cc])).toArray:=by rw[hN,HMM.out];rfl
 rw[hcells] at PU
 have PU:=hid PU
 unfold ptr at PU
 clear hN hpN hxN hgN hcells
 go_simp
 refine PU.out.mono ?_
 rintro ez wy ⟨rfl,vy,hty,huy,hoy⟩
 have HTY:=hid hty;have HUY:=hid huy;have HOY:=hid hoy
 clear hty huy hoy PU
 go_wp2_with fail
 refine hK.out _ _ (by obtain⟨q0,q1,q2⟩:=KS.out wz HBZ.out;refine⟨fun j u hj=>(World.cell?_of_block (a:=⟨w.heap.size,0+j,none⟩) (HUY.out.block _ (by have h1:=HBZ.out.size;have h2:=HS6.out;have h3:=HB5.out.size;have h4:=lt_of_heap (HQ6.out W6 (Below.refl _ _));show w.heap.size < _;omega) (by have:=HRB.out;simp;omega))).trans (q0 j u hj),?_,?_⟩;exact(cell_of_heap HTY.out.book).trans (by rw[HCC.out];rfl);exact(cell_of_heap HTY.out.book).trans (by rw[HMM.out];rfl)) ?_
 clear hK K zh
 intro zh
 try simp only[Act.put,zA,zB,zC,zD,zE,zF]
 refine wpAnyH_done (by kernel_rfl) ?_ _
 clear zh
 try simp only[Act.put,zA,zB,zC,zD,zE,zF]
 have hsrt:SrtT (insT N.te F.L):=insT_srt HG.out.srt (fun x hx=>by rw[HN.out];exact getT_none.1 HGN2.out x hx)
 have hup:getT (splitL p).dropLast (insT N.te F.L)=some u:=by
  have hm:=getT_nm HU.out
  have:=getT_of hsrt (mem_insT.2 (.inr hm.1))
  rw[hm.2] at this;exact this
 obtain⟨j,hj,hI⟩:=atI_get hsrt hup
 have hnl:(insR N R).length≤1000000:=by rw[insR_len,H.out.len];have:=HG.out.len;omega
 have hsz6:wz.heap.size≤wy.heap.size:=HUY.out.size
 have hupy:∀ w',Below wy.heap.size wy w'→St.StrsAt w' (.slice (some ⟨gl,0,none⟩) ((splitL p).length - 1) lc) (splitL p).dropLast:=fun w' hb=>by
  have h5:=HUP5.out w5 (Below.refl _ _)
  have hk:∀ b,b < w5.heap.size→b≠r→w'.heap[b]? =w5.heap[b]? :=fun b hb5 hbr=>by
   have h6:b < W6.heap.size:=by rw[HS6.out];exact hb5
   have hz:b < wz.heap.size:=Nat.lt_of_lt_of_le h6 HBZ.out.size
   rw[hb.block b (Nat.lt_of_lt_of_le hz hsz6),HUY.out.block b hz (by simpa using hbr),HBZ.out.block b h6,HT6.out.block b hb5 (by simpa using hbr)]
  obtain⟨a,c,ha,q1,q2,q3⟩:=h5
  injection ha with ha1 ha2 ha3
  refine⟨a,c,by rw[ha1,ha2,ha3],q1,q2,fun hne=>?_⟩
  obtain⟨b,o,hbo,hlt,hcl⟩:=q3 hne
  have hbg:b=gl:=by rw[←ha1] at hbo;injection hbo with hbo;injection hbo with h1;exact h1.symm
  have hgl:gl < w5.heap.size∧gl≠r:=⟨by rw[←hbg];exact hlt,by
   have h1:=rowS_ge HP5.out.row gl (by simp[ob,Value.ownBlock])
   have h2:=HRB.out;have h3:=HB0.out.size;omega⟩
  refine⟨b,o,hbo,by rw[hbg];have:=hgl.1;have h2:=HS6.out;have h3:=HBZ.out.size;have h4:=hb.size;omega,fun i x hx=>?_⟩
  exact(World.cell?_of_block (a:=⟨b,o+i,none⟩) (hk b (by rw[hbg];exact hgl.1) (by rw[hbg];exact hgl.2))).trans (hcl i x hx)
 have AT2:=rat_any B wy.drew r vy (insR N R) _ _ (splitL p).dropLast (hupy _ (Below.refl _ _).drew) hsrt hnl (HTY.out.below (Below.refl _ _).drew)
 rw[hI] at AT2
 have AT2:=hid AT2
 unfold ptr at AT2
 have hjl:j < (insR N R).length:=by
  have:=(List.getElem?_eq_some_iff.1 hj).1
  rw[HTY.out.len];exact this
 obtain⟨gy,cy,rfl,hgy⟩:=HTY.out.form (by omega)
 obtain⟨m,hm,hme⟩:=HTY.out.get hj
 have HJ:=hid hj;have HM:=hid hm;have HME:=hid hme;have HSRT:=hid hsrt
 have KS2:Hid (∀ w',Below wy.heap.size wy w'→w'.cell? ⟨r,0,none⟩=some (.slice (some ⟨gy,0,none⟩) (insR N R).length cy)∧w'.cell? ⟨r,1,none⟩=some (.int .i64 cc)):=hid (fun w' hb=>by
  have h1:=(HTY.out.below hb).book
  exact⟨cell_of_heap h1,by rw[HCC.out];exact cell_of_heap h1⟩)
 have hgr:gy≠r:=HTY.out.off gy (by simp[ob,Value.ownBlock])
 clear hsrt hup hj hI hupy hm hme
 go_upto_region 17 with(fail)
 refine wp_region_held_drew (S:=(fun w':World=>w'.cell? ⟨r,0,none⟩=some (.slice (some ⟨gy,0,none⟩) (insR N R).length cy)∧w'.cell? ⟨r,1,none⟩=some (.int .i64 cc))) (by kernel_rfl) (KS2.out _ (Below.refl _ _).drew) (fun zh=>?_)
 iterate 10
  first|refine' tj 0 rfl rfl (fun _ _ _ h=>h) ?_ zh ?_|refine' tj 1 rfl rfl (fun _ _ _ h=>h) ?_ zh ?_|refine' tj 2 rfl rfl (fun _ _ _ h=>h) ?_ zh ?_|refine' tj 3 rfl rfl (fun _ _ _ h=>h) ?_ zh ?_|refine' tj 4 rfl rfl (fun _ _ _ h=>h) ?_ zh ?_|refine' tj 5 rfl rfl (fun _ _ _ h=>h) ?_ zh ?_|refine' tj 7 rfl rfl (fun _ _ _ h=>h) ?_ zh ?_|refine' tj 8 rfl rfl (fun _ _ _ h=>h) ?_ zh ?_|refine' tj 9 rfl rfl (fun _ _ _ h=>h) ?_ zh ?_|refine' tj 10 rfl rfl (fun _ _ _ h=>h) ?_ zh ?_
  rotate_left
  · intro wS hS;obtain⟨k0,k1⟩:=hS;go_simp;try rfl
  try simp only[Act.put,zA,zB,zC,zD,zE,zF]
 refine wpAnyH_ready (rs:=[6]) (by kernel_rfl) (by simp) ?_
 refine AllReadyH.cons rfl (fun K hK=>?_) AllReadyH.nil
 go_simp
 refine AT2.out.mono ?_
 rintro ez wq ⟨rfl,hbq⟩
 have HBQ:Hid (Below wy.heap.size wy wq):=hid ((Below.refl wy.heap.size wy).drew.trans hbq)
 clear hbq
 go_wp2_with fail
 refine hK.out _ _ (KS2.out _ HBQ.out) ?_
 clear hK K zh
 intro zh
 try simp only[Act.put,zA,zB,zC,zD,zE,zF]
 iterate 2
  first|refine' tj 11 rfl rfl (fun _ _ _ h=>h) ?_ zh ?_|refine' tj 12 rfl rfl (fun _ _ _ h=>h) ?_ zh ?_
  rotate_left
  · intro wS hS;obtain⟨k0,k1⟩:=hS;go_simp;try rfl
  try simp only[Act.put,zA,zB,zC,zD,zE,zF]
 refine wpAnyH_ready (rs:=[13]) (by kernel_rfl) (by simp) ?_
 refine AllReadyH.cons rfl (fun K hK=>?_) AllReadyH.nil
 have hTQ:=HTY.out.below HBQ.out
 obtain⟨hts1,hts2,⟨hx3,hts3⟩,hts4⟩:=hTQ.ticked HM.out cc
 have HTS:=hid hts1;have HRL:=hid hts4
 clear hTQ hts1 hts4
 go_simp
 refine hK.out _ _ (by obtain⟨q0,q1⟩:=KS2.out wq HBQ.out;exact⟨(World.cell?_of_block (a:=⟨r,0,none⟩) (Below.heap_setCell _ _ _ _ (Ne.symm hgr))).trans q0,(World.cell?_of_block (a:=⟨r,1,none⟩) (Below.heap_setCell _ _ _ _ (Ne.symm hgr))).trans q1⟩) ?_
 clear hK K zh
 intro zh
 try simp only[Act.put,zA,zB,zC,zD,zE,zF]
 refine wpAnyH_done (by kernel_rfl) ?_ _
 clear zh
 try simp only[Act.put,zA,zB,zC,zD,zE,zF]
 have FINAL:Hid (RPost B w r (.slice va R.length vc) R (addN p d A F) 0 (.returned (.int .i64 0)) (wq.setCell ⟨gy,j*11+10,none⟩ (.int .i64 cc))):=by
  refine hid ⟨rfl,.slice (some ⟨gy,0,none⟩) (insR N R).length cy,(insR N R).set j {m with tick:=cc},?_,?_,fun b hb=>?_,fun b hb=> .inr (by have h1:=HOY.out b hb;have h2:=HBZ.out.size;have h3:=HS6.out;have h4:=HB5.out.size;have h5:=HB0.out.size;omega)⟩
  · have h1:=HTS.out
    have hL:(insT N.te F.L).set j {m.te with tick:=cc}=(addN p d A F).L:=by
     have hs:=set_tick HSRT.out HJ.out cc
     have hun:=(getT_nm HU.out).2
     rw[HME.out,hs,hun]
     rw[HN.out,HCC.out]
     exact add_list HGN2.out
    dsimp only at h1
    rw[hL] at h1
    exact h1
  · have e1:Turn (r::ob (.slice va R.length vc)) w w5:=Turn.of_below (HB0.out.trans (HB5.out.mono HB0.out.size))
    have e2:=e1.trans HT6.out (fun y hy=> .inl (by simp at hy;simp[hy]))
    have e3:=e2.trans (Turn.of_below (X:=[]) HBZ.out) (fun y hy=>nomatch hy)
    have e4:=e3.trans HUY.out (fun y hy=> .inl (by simp at hy;simp[hy]))
    have e5:=e4.trans (Turn.of_below (X:=[]) HBQ.out) (fun y hy=>nomatch hy)
    refine e5.setCell (p:=⟨gy,_,none⟩) (.inr ?_) _
    have h1:=HOY.out gy (by simp[ob,Value.ownBlock])
    have h2:=HBZ.out.size;have h3:=HS6.out;have h4:=HB5.out.size;have h5:=HB0.out.size
    show w.heap.size≤gy
    omega
  · have hsz:w.heap.size≤wz.heap.size:=by have h2:=HBZ.out.size;have h3:=HS6.out;have h4:=HB5.out.size;have h5:=HB0.out.size;omega
    rw[rblk,List.mem_cons,List.mem_append] at hb
    rcases hb with rfl|hb|hb
    · exact .inl (by simp[rblk])
    · exact .inr (Nat.le_trans hsz (HOY.out b hb))
    · rw[HRL.out] at hb
      rcases robL_ins hb with hb|hb
      · exact .inr (Nat.le_trans HB0.out.size (HGN.out b hb))
      · exact .inl (by rw[rblk,List.mem_cons,List.mem_append];exact .inr (.inr hb))
 go_wp2
 go_ret
 exact YES.out _ HC.out FINAL.out
theorem RTree.drew {B:Nat} {w:World} {r:Nat} {v:Value} {R:List RN} {F:Tr} (h:RTree B w r v R F):RTree B w.drew r v R F:=h.kept (Nat.le_refl _) (fun _ _=>rfl)
theorem write_codes (p d:List UInt8) (F:Tr) (h0:splitE p=0) (hd:¬ 1048576 < d.length) (hc:F.clock < 1099511627776):writeE p d F=match getT (splitL p) F.L with
 |none=>6
 |some n=>if n.at_.node≠1 then 11 else 0:=by
 rw[writeE,if_neg (by rw[h0];decide),if_neg hd]
 cases getT (splitL p) F.L with
 |none=>rfl
 |some n=>dsimp only;rw[if_neg (show ¬ 1099511627776≤F.clock by omega)]
theorem rwrite_any (B:Nat) (w:World) (r:Nat) (v:Value) (R:List RN) (F:Tr) (k:Nat) (p d:List UInt8) (hT:Tabs w) (hp:p.length≤4611686018427387904) (hd:d.length≤4611686018427387904) (hg:GoodF k F) (hk:k≤1000) (hc:F.clock≤1000000) (h:RTree B w r v R F):
 Calls Tryz.prog 30 #[ptr r,.string ⟨p.toArray⟩,.string ⟨d.toArray⟩] w (RPost B w r v R (if writeE p d F=0 then setN p (fun n=>{n with data:=d}) F else F) (writeE p d F)):=by
 have H:=hid h
 have HT:=hid hT;have HG:=hid hg
 have hlen:R.length≤1000000:=by rw[h.len];have:=hg.len;omega
 obtain⟨F2,hF2⟩:∃ F2,F2=if writeE p d F=0 then setN p (fun n=>{n with data:=d}) F else F:=⟨_,rfl⟩
 obtain⟨c2,hc2⟩:∃ c2,c2=writeE p d F:=⟨_,rfl⟩
 rw[←hF2,←hc2]
 have NOX:Hid (∀ (w1:World) (c:Int),Below w.heap.size w w1→writeE p d F=c→c≠0→RPost B w r v R F2 c2 (.returned (.int .i64 c)) w1):=hid (fun w1 c hb he hn=>by
  rw[hF2,hc2,if_neg (by rw[he];exact hn),he]
  exact rpost_same H.out hb rfl)
 have YES:Hid (∀ (w1:World),writeE p d F=0→RPost B w r v R (setN p (fun n=>{n with data:=d}) F) 0 (.returned (.int .i64 0)) w1→RPost B w r v R F2 c2 (.returned (.int .i64 0)) w1):=hid (fun w1 he h=>by
  rw[hF2,hc2,if_pos he,he];exact h)
 have HCLK:Hid (F.clock < 1099511627776):=hid (by omega)
 have hclk2:((F.clock:Int)==1099511627776)=false:=by rw[beq_eq_false_iff_ne];omega
 obtain⟨va,vc,rfl⟩:=rowS_slice h.row
 have SP:=ref_split ⟨p.toArray⟩ w hT hp
 rw[show (⟨p.toArray⟩:ByteArray).data.toList=p from by simp] at SP
 have SP:=hid SP
 have hds:(⟨d.toArray⟩:ByteArray).size=d.length:=rfl
 clear h hT hg hF2 hc2
 unfold ptr at*
 go_enter Tryz.func30,Tryz.ntmps30
 go_wp2_with fail
 refine SP.out.mono ?_
 rintro ex w1 ⟨vl,rfl,hr1,hb1⟩
 have HB1:=hid hb1
 obtain⟨la,lc,rfl⟩:=rowS_slice hr1
 clear hr1 hb1 SP
 rcases(splitE_cases p).symm with⟨h0,_⟩|h0
 · have HC:=hid (show writeE p d F=10 by rw[writeE,if_pos (by rw[h0];decide)])
   rw[h0]
   clear h0
   go_wp2
   go_ret
   exact NOX.out _ _ HB1.out HC.out (by decide)
 have HS0:=hid h0
 rw[h0]
 clear h0
 by_cases hdl:1048576 < d.length
 · have HC:=hid (show writeE p d F=1 by rw[writeE,if_neg (by rw[HS0.out];decide),if_pos hdl])
   have hdi:(1048576:Int) < (d.length:Int):=by omega
   clear hdl
   go_wp2
   go_ret
   exact NOX.out _ _ HB1.out HC.out (by decide)
 have hdi:¬ (1048576:Int) < (d.length:Int):=by omega
 have HWC:=hid (write_codes p d F HS0.out hdl HCLK.out)
 clear hdl
 have FI:=rfind_any B w1 r _ R F p (HT.out.below HB1.out) hp HG.out.srt hlen (H.out.below HB1.out)
 have hfe:findE p F.L=if (getT (splitL p) F.L).isSome then 0 else 6:=by rw[findE,if_pos HS0.out]
 rcases Option.eq_none_or_eq_some (getT (splitL p) F.L) with hg|⟨e0,hg⟩
 · have HC:=hid (show writeE p d F=6 by rw[HWC.out,hg])
   have hfe:findE p F.L=6:=by rw[hfe,hg];rfl
   have hfi:rfindI p F.L=0:=rfind_no (by rw[hfe];decide)
   rw[hfi,hfe] at FI
   have FI:=hid FI
   unfold ptr at FI
   clear hg hfe hfi HWC
   go_wp2_with fail
   refine FI.out.mono ?_
   rintro ex w2 ⟨rfl,hb2⟩
   have HB2:=hid (HB1.out.trans (hb2.mono HB1.out.size))
   clear hb2 FI
   go_wp2
   go_ret
   exact NOX.out _ _ HB2.out HC.out (by decide)
 have hfe:findE p F.L=0:=by rw[hfe,hg];rfl
 obtain⟨i,e,hfi,hi,hen,hg',_⟩:=rfind_yes HG.out.srt hfe
 obtain rfl:e=e0:=by rw[hg] at hg';exact(Option.some.inj hg').symm
 rw[hfi,hfe] at FI
 have FI:=hid FI
 unfold ptr at FI
 obtain⟨n,hn,hne⟩:=H.out.get hi
 have hil:i < R.length:=(List.getElem?_eq_some_iff.1 hn).1
 have HGE:=hid hg;have HI:=hid hi;have HN:=hid hn;have HNE:=hid hne;have HEN:=hid hen
 have HWD:=hid (show writeE p d F=if n.at_.node≠1 then 11 else 0 by rw[HWC.out,hg,←hne];rfl)
 have hilt:(i:Int) < (R.length:Int):=by omega
 obtain⟨gv,cap,hv,hgv⟩:=H.out.form (by omega)
 injection hv with e1 e2 e3
 subst e1 e3
 have KS:Hid (∀ w2,Below w.heap.size w w2→w2.cell? ⟨r,0,none⟩=some (.slice (some ⟨gv,0,none⟩) R.length vc)∧w2.cell? ⟨r,1,none⟩=some (.int .i64 (F.clock:Int))∧w2.frozen? ⟨r,1,none⟩=false∧w2.cell? ⟨gv,i*11+1,none⟩=some (.int .u8 (n.at_.node:Int))):=hid (fun w2 hb=>by
  have HX:=H.out.below hb
  exact⟨cell_of_heap HX.book,cell_of_heap HX.book,frozen_of_heap HX.book,HX.ent HN.out 1 _ rfl⟩)
 clear hg hg' hfe hfi HWC hi hn hne hen e2
 go_wp2_with fail
 refine FI.out.mono ?_
 rintro ex w2 ⟨rfl,hb2⟩
 have HB2:=hid (HB1.out.trans (hb2.mono HB1.out.size))
 clear hb2 FI
 obtain⟨c0,c1,f1,cn⟩:=KS.out w2 HB2.out
 by_cases hno:n.at_.node=1
 case neg=>
  have HC:=hid (show writeE p d F=11 by rw[HWD.out,if_pos hno])
  have q1:((n.at_.node:Int)==1)=false:=by rw[beq_eq_false_iff_ne];omega
  have q2:((n.at_.node:Int) !=1)=true:=by rw[bne_iff_ne];omega
  clear hno
  go_wp2
  go_ret
  exact NOX.out _ _ HB2.out HC.out (by decide)
 have HC:=hid (show writeE p d F=0 by rw[HWD.out,if_neg (by rw[hno];decide)])
 have q1:((n.at_.node:Int)==1)=true:=by rw[hno];rfl
 have q2:((n.at_.node:Int) !=1)=false:=by rw[hno];rfl
 clear hno
 -- the clock,then the bytes
 obtain⟨cc,hcc⟩:∃ cc:Int,cc=((F.clock+1:Nat):Int):=⟨_,rfl⟩
 have hcl:(F.clock:Int)+1=cc:=by rw[hcc];omega
 obtain⟨W3,hW3⟩:∃ W3,W3=w2.setCell ⟨r,1,none⟩ (.int .i64 ((F.clock:Int)+1)):=⟨_,rfl⟩
 have hX3:RTree B W3 r (.slice (some ⟨gv,0,none⟩) R.length vc) R {F with clock:=F.clock+1}:=by
  have:=(H.out.below HB2.out).clocked (F.clock+1)
  rw[←hcc,←hcl,←hW3] at this;exact this
 obtain⟨hd1,hd2,⟨xd,hd3⟩,hd4⟩:=hX3.dataed HN.out d
 obtain⟨W4,hW4⟩:∃ W4,W4=W3.setCell ⟨gv,i*11+8,none⟩ (.string ⟨d.toArray⟩):=⟨_,rfl⟩
 rw[←hW4] at hd1
 have cL3:W3.cell? ⟨r,0,none⟩=some (.slice (some ⟨gv,0,none⟩) R.length vc):=cell_of_heap hX3.book
 rw[hW3] at cL3 hd2 hd3
 have hn2:(R.set i {n with data:=d})[i]? =some {n with data:=d}:=by rw[List.getElem?_set_self hil]
 have hrow:(R.set i {n with data:=d}).length=R.length:=List.length_set
 have hd1':=hd1
 rw[←hrow] at hd1'
 obtain⟨ht1,ht2,⟨xt,ht3⟩,ht4⟩:=hd1'.ticked hn2 cc
 rw[hrow] at ht1
 have HX3:=hid hX3;have HD1:=hid hd1;have HD4:=hid hd4;have HT1:=hid ht1;have HT4:=hid ht4
 have HW3:=hid hW3;have HW4:=hid hW4;have HCC:=hid hcc
 have hgr:gv≠r:=H.out.off gv (by simp[ob,Value.ownBlock])
 have KW:Hid (W4.drew.cell? ⟨r,0,none⟩=some (.slice (some ⟨gv,0,none⟩) R.length vc)∧W4.drew.cell? ⟨r,1,none⟩=some (.int .i64 cc)):=hid ⟨cell_of_heap hd1.book,(cell_of_heap hd1.book).trans (by rw[hcc];rfl)⟩
 clear hX3 hd1 hd1' hd4 ht1 ht4 hW3 hW4 hn2 hrow hcc hcl
 go_upto_region 15 with(fail)
 rw[←HW3.out,←HW4.out]
 refine wp_region_held_drew (S:=(fun w':World=>w'.cell? ⟨r,0,none⟩=some (.slice (some ⟨gv,0,none⟩) R.length vc)∧w'.cell? ⟨r,1,none⟩=some (.int .i64 cc))) (by kernel_rfl) KW.out (fun zh=>?_)
 iterate 11
  first|refine' tj 0 rfl rfl (fun _ _ _ h=>h) ?_ zh ?_|refine' tj 1 rfl rfl (fun _ _ _ h=>h) ?_ zh ?_|refine' tj 2 rfl rfl (fun _ _ _ h=>h) ?_ zh ?_|refine' tj 3 rfl rfl (fun _ _ _ h=>h) ?_ zh ?_|refine' tj 4 rfl rfl (fun _ _ _ h=>h) ?_ zh ?_|refine' tj 5 rfl rfl (fun _ _ _ h=>h) ?_ zh ?_|refine' tj 6 rfl rfl (fun _ _ _ h=>h) ?_ zh ?_|refine' tj 7 rfl rfl (fun _ _ _ h=>h) ?_ zh ?_|refine' tj 8 rfl rfl (fun _ _ _ h=>h) ?_ zh ?_|refine' tj 9 rfl rfl (fun _ _ _ h=>h) ?_ zh ?_|refine' tj 10 rfl rfl (fun _ _ _ h=>h) ?_ zh ?_
  rotate_left
  · intro wS hS;obtain⟨k0,k1⟩:=hS;go_simp;try rfl
  try simp only[Act.put,zA,zB,zC,zD,zE,zF]
 refine wpAnyH_ready (rs:=[11]) (by kernel_rfl) (by simp) ?_
 refine AllReadyH.cons rfl (fun K hK=>?_) AllReadyH.nil
 go_simp
 refine hK.out _ _ (by obtain⟨q0,q1⟩:=KW.out;exact⟨(World.cell?_of_block (a:=⟨r,0,none⟩) (Below.heap_setCell _ _ _ _ (Ne.symm hgr))).trans q0,(World.cell?_of_block (a:=⟨r,1,none⟩) (Below.heap_setCell _ _ _ _ (Ne.symm hgr))).trans q1⟩) ?_
 clear hK K zh
 intro zh
 try simp only[Act.put,zA,zB,zC,zD,zE,zF]
 refine wpAnyH_done (by kernel_rfl) ?_ _
 clear zh
 try simp only[Act.put,zA,zB,zC,zD,zE,zF]
 have FINAL:Hid (RPost B w r (.slice (some ⟨gv,0,none⟩) R.length vc) R (setN p (fun n=>{n with data:=d}) F) 0 (.returned (.int .i64 0)) (W4.setCell ⟨gv,i*11+10,none⟩ (.int .i64 cc)).drew):=by
  refine hid ⟨rfl,.slice (some ⟨gv,0,none⟩) R.length vc,(R.set i {n with data:=d}).set i {n with data:=d,tick:=cc},?_,?_,fun b hb=>?_,fun _ hb=> .inl hb⟩
  · have h1:=HT1.out.drew
    have hL:(F.L.set i {n.te with data:=d}).set i {RN.te {n with data:=d} with tick:=cc}=tickN [splitL p] ((F.clock+1:Nat):Int) (updN {e with data:=d} F.L):=by
     have hs:=set_upd (e':={e with data:=d}) HG.out.srt HI.out rfl
     have hne:=HNE.out
     have h2:(updN {e with data:=d} F.L)[i]? =some {e with data:=d}:=by
      rw[←hs,List.getElem?_set_self (List.getElem?_eq_some_iff.1 HI.out).1]
     have hss:SrtT (updN {e with data:=d} F.L):=by
      have hm:(updN {e with data:=d} F.L).map TE.nm=F.L.map TE.nm:=by
       rw[updN,List.map_map]
       refine List.map_congr_left (fun x _=>?_)
       show(if x.nm=e.nm then({e with data:=d}:TE) else x).nm=x.nm
       split
       · next h=>exact h.symm
       · rfl
      have key:(F.L.map TE.nm).Pairwise fun a b=>ahd a b=true:=List.pairwise_map.2 HG.out.srt
      rw[←hm] at key
      exact List.pairwise_map.1 key
     have ht:(updN {e with data:=d} F.L).set i {({e with data:=d}:TE) with tick:=cc}=tickN [e.nm] cc (updN {e with data:=d} F.L):=set_tick hss h2 cc
     rw[←HCC.out,←HEN.out,←ht,←hs,←hne];rfl
    have hS:setN p (fun n=>{n with data:=d}) F={F with clock:=F.clock+1,L:=tickN [splitL p] ((F.clock+1:Nat):Int) (updN {e with data:=d} F.L)}:=by
     rw[setN,HGE.out]
    rw[hS,←hL]
    exact h1
  · have e1:Turn (r::ob (.slice (some ⟨gv,0,none⟩) R.length vc)) w w2:=Turn.of_below HB2.out
    have e2:=e1.setCell (p:=⟨r,1,none⟩) (.inl (by simp)) (.int .i64 ((F.clock:Int)+1))
    rw[←HW3.out] at e2
    have e3:=e2.setCell (p:=⟨gv,i*11+8,none⟩) (.inl (by simp[ob,Value.ownBlock])) (.string ⟨d.toArray⟩)
    rw[←HW4.out] at e3
    exact(e3.setCell (p:=⟨gv,i*11+10,none⟩) (.inl (by simp[ob,Value.ownBlock])) (.int .i64 cc)).drew
  · refine .inl ?_
    rw[rblk,List.mem_cons,List.mem_append] at hb ⊢
    rcases hb with hb|hb|hb
    · exact .inl hb
    · exact .inr (.inl hb)
    · have h4:=HT4.out
      rw[h4,HD4.out] at hb
      exact .inr (.inr hb)
 go_wp2
 go_ret
 exact YES.out _ HC.out FINAL.out
end Go.Proofs.YtnmejonfdfdegaaGreatDoor.Sr
