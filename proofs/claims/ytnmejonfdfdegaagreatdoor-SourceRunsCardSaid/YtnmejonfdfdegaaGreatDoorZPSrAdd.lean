import Derived.Test.YtnmejonfdfdegaaGreatDoorZPZz
import Derived.Test.YtnmejonfdfdegaaGreatDoorZPSrOwn
set_option linter.unusedSimpArgs false
set_option linter.unusedVariables false
set_option maxHeartbeats 16000000
set_option maxRecDepth 100000
namespace Go.Proofs.YtnmejonfdfdegaaGreatDoor.Sr
open Go.RowKit Go.Maps Go.WideMaps Rf Go.Proofs.YtnmejonfdfdegaaGreatDoor.Nm St
open Lib (hid)
def addE (p d:List UInt8) (A:XA) (T:Tr):Int:=
 if splitE p≠0 then 10 else if chkA A=false∨1048576 < d.length then 1 else if (getT (splitL p) T.L).isSome then 7
 else if abvE (splitL p) T.L≠0 then abvE (splitL p) T.L else if 256≤(kidsT T.L (splitL p).dropLast).length∨1099511627776≤T.clock then 3 else 0
def AddPost (B:Nat) (w:World) (r:Nat) (T:Tr) (p d:List UInt8) (A:XA) (e:Ending) (w':World):Prop:=
 e= .returned (.int .i64 (addE p d A T))∧(addE p d A T≠0→TreeAt B w' r T∧Below w.heap.size w w')∧
 (addE p d A T=0→∃ n u,u∈T.L∧u.nm=(splitL p).dropLast∧n.nm=splitL p∧n.ino=T.most+1∧n.at_=A∧n.data=d∧n.tick=0∧
   TreeAt B w' r {T with clock:=T.clock+1,most:=T.most+1,L:=tickT [n.p,u.p] ((T.clock+1:Nat):Int) (insT n T.L)}∧Turn (r::ownL T.L) w w'∧∀ b∈ownE n++xob n.at_.xs n.xv,w.heap.size≤b)
theorem addPost_no {B:Nat} {w w':World} {r:Nat} {T:Tr} {p d:List UInt8} {A:XA} {e:Ending} {c:Int} (hc:addE p d A T=c) (he:e= .returned (.int .i64 c)) (hn:c≠0) (h:TreeAt B w r T) (hb:Below w.heap.size w w'):AddPost B w r T p d A e w':=
 ⟨by rw[hc];exact he,fun _=>⟨h.below hb,hb⟩,fun h0=>absurd (hc.symm.trans h0) hn⟩
theorem chk_len {A:XA} (h:chkA A=true):A.xs.length≤16:=by
 rw[chkA] at h
 simp only[Bool.and_eq_true,decide_eq_true_eq] at h
 exact h.2.2.2.2.1
theorem TreeAt.root_path {B:Nat} {w:World} {r:Nat} {T:Tr} (h:TreeAt B w r T) {l:PN} (hg:getT l T.L=none):l≠[]:=by
 rintro rfl
 obtain⟨e,he,_⟩:=h.root
 rw[hg] at he;cases he
theorem add_any (B:Nat) (w:World) (r:Nat) (T:Tr) (p d:List UInt8) (A:XA) (v:Value) (hp:p.length≤4611686018427387904) (hd:d.length≤4611686018427387904) (hv:XsAt w v A.xs) (hvr:∀ b∈xob A.xs v,b≠r) (hmost:T.most < 18446744073709551615) (h:TreeAt B w r T):
 Calls Tryz.prog 61 #[ptr r,.string ⟨p.toArray⟩,.string ⟨d.toArray⟩,.agg (A.cells v).toArray] w (AddPost B w r T p d A):=by
 obtain⟨W,hW⟩:∃ W,W=w.alloc (.cells (A.cells v).toArray AtT):=⟨_,rfl⟩
 have hb0:Below w.heap.size w W:=by rw[hW];exact(Below.refl _ _).alloc (Nat.le_refl _) _
 have hq0:W.heap[w.heap.size]? =some (.cells (A.cells v).toArray AtT):=by rw[hW];exact(MapKept.heap_alloc w _).1
 have FI:=hid (find_any B W r T p hp (h.below hb0))
 have H:=hid h;have HB0:=hid hb0;have HQ0:=hid hq0;have HW:=hid hW;have HV:=hid hv;have HMO:=hid hmost;have HVR:=hid hvr
 have hds:(⟨d.toArray⟩:ByteArray).size=d.length:=rfl
 clear h hb0 hq0 hW hv hmost hvr
 unfold ptr at*
 go_enter Tryz.func61,Tryz.ntmps61
 go_wp2_with fail
 change Calls _ _ _ (w.alloc (.cells (A.cells v).toArray AtT)) _
 rw[←HW.out]
 refine FI.out.mono ?_
 rintro ex w1 ⟨vl,rfl,hp1,hb1⟩
 have HB1:Hid (Below w.heap.size w w1):=hid (HB0.out.trans (hb1.mono HB0.out.size))
 have HP1:=hid hp1
 have HQ1:Hid (w1.heap[w.heap.size]? =some (.cells (A.cells v).toArray AtT)):=hid ((hb1.block _ (lt_of_heap HQ0.out)).trans HQ0.out)
 have HLTW:Hid (W.heap.size=w.heap.size+1):=hid (by rw[HW.out,one_size])
 obtain⟨la,lc,rfl⟩:=rowS_slice hp1.row
 have hX1:=HV.out.kept HB1.out.size (fun b hb=>HB1.out.block b (HV.out.lt b hb))
 have CH:=chk_any w1 A v hX1
 have HX1:=hid hX1
 clear FI hp1 hb1 HQ0 hX1
 rw[findE,findN]
 rcases splitE_cases p with h0|⟨h0,_⟩
 case inr=>
  have hc:addE p d A T=10:=by rw[addE,if_pos (by rw[h0];decide)]
  have HADD:=hid hc
  rw[if_neg (by rw[h0];decide),if_neg (by rw[h0];decide)]
  unfold ptrO
  clear h0 hc CH
  go_wp2
  go_ret
  exact addPost_no HADD.out rfl (by decide) H.out HB1.out
 rw[if_pos h0,if_pos h0]
 have HADE:Hid (addE p d A T=if chkA A=false∨1048576 < d.length then 1 else if (getT (splitL p) T.L).isSome then 7 else if abvE (splitL p) T.L≠0 then abvE (splitL p) T.L else if 256≤(kidsT T.L (splitL p).dropLast).length∨1099511627776≤T.clock then 3 else 0):=hid (by rw[addE,if_neg (by rw[h0];decide)])
 have HXL:Hid (chkA A=true→A.xs.length≤1000):=hid (fun h=>by have:=chk_len h;omega)
 clear h0
 cases hg:getT (splitL p) T.L with
 |some e=>
  unfold ptrO
  have HG:=hid hg
  clear hg
  by_cases hck:chkA A=true
  case neg=>
   have hc:addE p d A T=1:=by rw[HADE.out,if_pos (.inl (by simpa using hck))]
   have HADD:=hid hc
   rw[chkAE,if_neg hck] at CH
   have CH:=hid CH
   clear hck hc
   go_wp2_with (first
    |(refine Sh.wpList_load_at (T:=AtT) (cs:=(A.cells v).toArray) HQ1.out rfl AtT (.tmp 7) rfl rfl _ Tryz.underlying79 rfl (infoAt _ _) ?_)
    |fail)
   refine CH.out.mono ?_
   rintro ex w2 ⟨rfl,hb2⟩
   have HB2:=hid (HB1.out.trans (hb2.mono HB1.out.size))
   have HB12:=hid hb2
   clear hb2 CH
   go_wp2
   go_ret
   exact addPost_no HADD.out rfl (by decide) H.out HB2.out
  by_cases hbig:1048576 < d.length
  case pos=>
   have hc:addE p d A T=1:=by rw[HADE.out,if_pos (.inr hbig)]
   have HADD:=hid hc
   have hbi:(1048576:Int) < (d.length:Int):=by omega
   rw[chkAE,if_pos hck] at CH
   have CH:=hid CH
   clear hck hc hbig
   go_wp2_with (first
    |(refine Sh.wpList_load_at (T:=AtT) (cs:=(A.cells v).toArray) HQ1.out rfl AtT (.tmp 7) rfl rfl _ Tryz.underlying79 rfl (infoAt _ _) ?_)
    |fail)
   refine CH.out.mono ?_
   rintro ex w2 ⟨rfl,hb2⟩
   have HB2:=hid (HB1.out.trans (hb2.mono HB1.out.size))
   have HB12:=hid hb2
   clear hb2 CH
   go_wp2
   go_ret
   exact addPost_no HADD.out rfl (by decide) H.out HB2.out
  have hbi:¬ (1048576:Int) < (d.length:Int):=by omega
  have HADF:Hid (addE p d A T=if (getT (splitL p) T.L).isSome then 7 else if abvE (splitL p) T.L≠0 then abvE (splitL p) T.L else if 256≤(kidsT T.L (splitL p).dropLast).length∨1099511627776≤T.clock then 3 else 0):=hid (by rw[HADE.out,if_neg (fun h=>h.elim (fun h=>by rw[hck] at h;cases h) hbig)])
  rw[chkAE,if_pos hck] at CH
  have CH:=hid CH
  clear hck hbig HADE
  have hc:addE p d A T=7:=by rw[HADF.out,HG.out];rfl
  have HADD:=hid hc
  clear hc
  go_wp2_with (first
   |(refine Sh.wpList_load_at (T:=AtT) (cs:=(A.cells v).toArray) HQ1.out rfl AtT (.tmp 7) rfl rfl _ Tryz.underlying79 rfl (infoAt _ _) ?_)
   |fail)
  refine CH.out.mono ?_
  rintro ex w2 ⟨rfl,hb2⟩
  have HB2:=hid (HB1.out.trans (hb2.mono HB1.out.size))
  have HB12:=hid hb2
  clear hb2 CH
  go_wp2
  go_ret
  exact addPost_no HADD.out rfl (by decide) H.out HB2.out
 |none=>
  unfold ptrO
  have HG:=hid hg
  have HNE:Hid (splitL p≠[]):=hid (H.out.root_path hg)
  clear hg
  have HCKX:Hid (chkA A=true→A.xs.length≤1000):=HXL
  by_cases hxl:A.xs.length≤1000
  case neg=> 
   have hck:¬ chkA A=true:=fun h=>hxl (HXL.out h)
   have hc:addE p d A T=1:=by rw[HADE.out,if_pos (.inl (by simpa using hck))]
   have HADD:=hid hc
   rw[chkAE,if_neg hck] at CH
   have CH:=hid CH
   clear hck hc
   go_wp2_with (first
    |(refine Sh.wpList_load_at (T:=AtT) (cs:=(A.cells v).toArray) HQ1.out rfl AtT (.tmp 7) rfl rfl _ Tryz.underlying79 rfl (infoAt _ _) ?_)
    |fail)
   refine CH.out.mono ?_
   rintro ex w2 ⟨rfl,hb2⟩
   have HB2:=hid (HB1.out.trans (hb2.mono HB1.out.size))
   have HB12:=hid hb2
   clear hb2 CH
   go_wp2
   go_ret
   exact addPost_no HADD.out rfl (by decide) H.out HB2.out
  by_cases hck:chkA A=true
  case neg=>
   have hc:addE p d A T=1:=by rw[HADE.out,if_pos (.inl (by simpa using hck))]
   have HADD:=hid hc
   rw[chkAE,if_neg hck] at CH
   have CH:=hid CH
   clear hck hc
   go_wp2_with (first
    |(refine Sh.wpList_load_at (T:=AtT) (cs:=(A.cells v).toArray) HQ1.out rfl AtT (.tmp 7) rfl rfl _ Tryz.underlying79 rfl (infoAt _ _) ?_)
    |fail)
   refine CH.out.mono ?_
   rintro ex w2 ⟨rfl,hb2⟩
   have HB2:=hid (HB1.out.trans (hb2.mono HB1.out.size))
   have HB12:=hid hb2
   clear hb2 CH
   go_wp2
   go_ret
   exact addPost_no HADD.out rfl (by decide) H.out HB2.out
  by_cases hbig:1048576 < d.length
  case pos=>
   have hc:addE p d A T=1:=by rw[HADE.out,if_pos (.inr hbig)]
   have HADD:=hid hc
   have hbi:(1048576:Int) < (d.length:Int):=by omega
   rw[chkAE,if_pos hck] at CH
   have CH:=hid CH
   clear hck hc hbig
   go_wp2_with (first
    |(refine Sh.wpList_load_at (T:=AtT) (cs:=(A.cells v).toArray) HQ1.out rfl AtT (.tmp 7) rfl rfl _ Tryz.underlying79 rfl (infoAt _ _) ?_)
    |fail)
   refine CH.out.mono ?_
   rintro ex w2 ⟨rfl,hb2⟩
   have HB2:=hid (HB1.out.trans (hb2.mono HB1.out.size))
   have HB12:=hid hb2
   clear hb2 CH
   go_wp2
   go_ret
   exact addPost_no HADD.out rfl (by decide) H.out HB2.out
  have hbi:¬ (1048576:Int) < (d.length:Int):=by omega
  have HADF:Hid (addE p d A T=if (getT (splitL p) T.L).isSome then 7 else if abvE (splitL p) T.L≠0 then abvE (splitL p) T.L else if 256≤(kidsT T.L (splitL p).dropLast).length∨1099511627776≤T.clock then 3 else 0):=hid (by rw[HADE.out,if_neg (fun h=>h.elim (fun h=>by rw[hck] at h;cases h) hbig)])
  rw[chkAE,if_pos hck] at CH
  have CH:=hid CH
  clear hck hbig HADE
  have HADG:Hid (addE p d A T=if abvE (splitL p) T.L≠0 then abvE (splitL p) T.L else if 256≤(kidsT T.L (splitL p).dropLast).length∨1099511627776≤T.clock then 3 else 0):=hid (by rw[HADF.out,HG.out];rfl)
  clear HADF
  go_wp2_with (first
   |(refine Sh.wpList_load_at (T:=AtT) (cs:=(A.cells v).toArray) HQ1.out rfl AtT (.tmp 7) rfl rfl _ Tryz.underlying79 rfl (infoAt _ _) ?_)
   |fail)
  refine CH.out.mono ?_
  rintro ex w2 ⟨rfl,hb2⟩
  have HB2:=hid (HB1.out.trans (hb2.mono HB1.out.size))
  have HB12:=hid hb2
  clear hb2 CH
  have HP2:=hid (HP1.out.below HB12.out)
  have HLN:Hid ((splitL p).length≤1000000):=hid (splitL_short p)
  have AB:=above_any B W.heap.size w2 r T (.slice la (splitL p).length lc) (splitL p) HNE.out HLN.out HP2.out (H.out.below HB2.out)
  rw[abvE] at HADG
  rw[abvN,abvE] at AB
  unfold ptr ptrO at AB
  cases hu:getT (splitL p).dropLast T.L with
  |none=>
   simp only[hu] at AB HADG
   have AB:=hid AB
   have hc:addE p d A T=6:=by rw[HADG.out];rfl
   have HADD:=hid hc
   clear hu hc HADG
   go_wp2_with fail
   refine AB.out.mono ?_
   rintro ex w3 ⟨rfl,hw3⟩
   obtain rfl:w2=w3:=hw3.symm
   go_wp2
   go_ret
   exact addPost_no HADD.out rfl (by decide) H.out HB2.out
  |some u=>
   simp only[hu] at AB HADG
   try dsimp only at AB HADG
   obtain⟨hum,hun⟩:=getT_nm hu
   have HUM:=hid hum;have HUN:=hid hun
   clear hu hum hun
   by_cases hk2:u.at_.node=2
   case neg=>
    rw[if_neg hk2,if_neg hk2] at AB
    rw[if_neg hk2] at HADG
    have AB:=hid AB
    have hc:addE p d A T=11:=by rw[HADG.out];rfl
    have HADD:=hid hc
    clear hc HADG hk2
    go_wp2_with fail
    refine AB.out.mono ?_
    rintro ex w3 ⟨rfl,hw3⟩
    obtain rfl:w2=w3:=hw3.symm
    go_wp2
    go_ret
    exact addPost_no HADD.out rfl (by decide) H.out HB2.out
   rw[if_pos hk2,if_pos hk2] at AB
   rw[if_pos hk2,if_neg (by simp)] at HADG
   have AB:=hid AB
   obtain⟨ub,hub⟩:∃ ub,u.m=some ub:=Option.ne_none_iff_exists'.1 ((H.out.kind u HUM.out).1 hk2)
   have HUB:=hid hub
   clear hk2 hub
   have H2:=hid (H.out.below HB2.out)
   have cu:w2.cell? ⟨u.p,10,none⟩=some (mapV u.m):=cell_of_heap (H2.out.node u HUM.out).cells
   rw[←HUN.out] at HADG
   have ST:=still_any B w2 r T H2.out
   unfold ptr at ST
   by_cases hk:256≤(kidsT T.L u.nm).length
   case pos=>
    have hc:addE p d A T=3:=by rw[HADG.out,if_pos (.inl hk)]
    have HADD:=hid hc
    have hki:(256:Int)≤((kidsT T.L u.nm).length:Int):=by omega
    clear hc HADG hk ST
    go_wp2_with fail
    refine AB.out.mono ?_
    rintro ex w3 ⟨rfl,hw3⟩
    obtain rfl:w2=w3:=hw3.symm
    go_wp2_with (first
     |(refine wpList_maplen H2.out HUM.out rfl _ rfl rfl ?_))
    go_ret
    exact addPost_no HADD.out rfl (by decide) H.out HB2.out
   have hki:¬ (256:Int)≤((kidsT T.L u.nm).length:Int):=by omega
   by_cases hst:1099511627776≤T.clock
   case pos=>
    have hc:addE p d A T=3:=by rw[HADG.out,if_pos (.inr hst)]
    have HADD:=hid hc
    rw[decide_eq_true hst] at ST
    have ST:=hid ST
    clear hc HADG hk hst
    go_wp2_with fail
    refine AB.out.mono ?_
    rintro ex w3 ⟨rfl,hw3⟩
    obtain rfl:w2=w3:=hw3.symm
    go_wp2_with (first
     |(refine wpList_maplen H2.out HUM.out rfl _ rfl rfl ?_)
     |fail)
    refine ST.out.mono ?_
    rintro ex w3 ⟨rfl,hw3⟩
    obtain rfl:w2=w3:=hw3.symm
    go_wp2
    go_ret
    exact addPost_no HADD.out rfl (by decide) H.out HB2.out
   have hc:addE p d A T=0:=by rw[HADG.out,if_neg (fun h=>h.elim hk hst)]
   have HADD:=hid hc
   have HKL:Hid ((kidsT T.L u.nm).length < 256):=hid (by omega)
   have HCL:Hid (T.clock < 1099511627776):=hid (by omega)
   rw[decide_eq_false hst] at ST
   have ST:=hid ST
   clear hc HADG hk hst
   go_wp2_with fail
   refine AB.out.mono ?_
   rintro ex w3 ⟨rfl,hw3⟩
   obtain rfl:w2=w3:=hw3.symm
   go_wp2_with (first
    |(refine wpList_maplen H2.out HUM.out rfl _ rfl rfl ?_)
    |fail)
   refine ST.out.mono ?_
   rintro ex w3 ⟨rfl,hw3⟩
   obtain rfl:w2=w3:=hw3.symm
   clear AB ST cu
   have HX2:=hid (HX1.out.kept HB12.out.size (fun b hb=>HB12.out.block b (HX1.out.lt b hb)))
   have HQ2:=hid ((HB12.out.block _ (lt_of_heap HQ1.out)).trans HQ1.out)
   obtain⟨e0,he0,hr0⟩:=H2.out.root
   have cr2:w2.cell? ⟨r,2,none⟩=some (.int .u64 (T.most:Int)):=cell_of_heap hr0
   have fr2:w2.frozen? ⟨r,2,none⟩=false:=frozen_of_heap hr0
   have hwm:IntKind.u64.wrap ((T.most:Int)+1)=(T.most:Int)+1:=by rw[IntKind.wrap_u64];have:=HMO.out;omega
   have HHD:Hid (TreeAt B (w2.setCell ⟨r,2,none⟩ (.int .u64 ((T.most:Int)+1))) r {T with most:=T.most+1}):=hid (by
    refine H2.out.head he0 (e:=e0) (c:=T.clock) (m:=T.most+1) (n:=T.reads) ?_ (fun b hb=>Below.heap_setCell _ _ _ _ ?_) (by rw[World.size_setCell];exact Nat.le_refl _)
    · rw[setCell_heap _ _ _ _ _ _ hr0];rfl
    · intro hbr
      have hbr:b=r:=hbr
      subst hbr
      rcases List.mem_append.1 hb with hb|hb
      · exact H2.out.r_own hb
      · exact H2.out.xoff b hb (by simp))
   have HRQ:Hid (r < w.heap.size):=hid (H.out.lt r (by simp))
   have HQ3':Hid ((w2.setCell ⟨r,2,none⟩ (.int .u64 ((T.most:Int)+1))).heap[w.heap.size]? =some (.cells (A.cells v).toArray AtT)):=hid ((Below.heap_setCell _ _ _ _ (by have:=HRQ.out;show w.heap.size≠r;omega)).trans HQ2.out)
   have HR3':Hid ((w2.setCell ⟨r,2,none⟩ (.int .u64 ((T.most:Int)+1))).cell? ⟨r,2,none⟩=some (.int .u64 ((T.most:Int)+1))):=hid (by rw[cell_of_heap (by rw[setCell_heap _ _ _ _ _ _ hr0])];rfl)
   have HT23':Hid (Turn [r] w2 (w2.setCell ⟨r,2,none⟩ (.int .u64 ((T.most:Int)+1)))):=hid ((Turn.refl [r] w2).setCell (.inl (by simp)) _)
   have HX3':Hid (XsAt (w2.setCell ⟨r,2,none⟩ (.int .u64 ((T.most:Int)+1))) v A.xs):=hid (HX2.out.kept (by rw[World.size_setCell];exact Nat.le_refl _) (fun b hb=>Below.heap_setCell _ _ _ _ (HVR.out b hb)))
   clear hr0 he0
   go_wp2
   obtain⟨w3,hw3⟩:∃ w3,w3=w2.setCell ⟨r,2,none⟩ (.int .u64 ((T.most:Int)+1)):=⟨_,rfl⟩
   rw[←hw3] at HHD HQ3' HR3' HT23' HX3' ⊢
   have H3:=HHD;have HQ3:=HQ3';have HR3:=HR3';have HT23:=HT23';have HX3:=HX3'
   have HBS:Hid (B≤w3.heap.size):=hid (by have:=H3.out.base r (by simp);have:=H3.out.lt r (by simp);omega)
   clear HHD HQ3' HR3' HT23' HX3' cr2 fr2 hw3 H2
   obtain⟨e1,he1,hr1⟩:=H3.out.root
   have HRT:=hid hr1
   clear he1 hr1
   have KS:Hid (∀ w',Below w3.heap.size w3 w'→w'.cell? ⟨r,2,none⟩=some (.int .u64 ((T.most:Int)+1))∧w'.rangeAt w.heap.size 0 (A.cells v).toArray.toList):=hid (fun w' hb=>⟨(hb.cell (p:=⟨r,2,none⟩) (H3.out.lt r (by simp))).trans HR3.out,range_block ((hb.block _ (lt_of_heap HQ3.out)).trans HQ3.out)⟩)
   have HBD:Hid (Below w3.heap.size w3 w3.drew):=hid (Below.refl w3.heap.size w3).drew
   have OW:Hid (∀ w',Below w3.heap.size w3 w'→Calls Tryz.prog 80 #[.agg (A.cells v).toArray] w' fun e w''=>∃ v',e= .returned (.agg #[.int .u8 (A.node:Int),.int .u32 (A.mode:Int),.int .u32 (A.uid:Int),.int .u32 (A.gid:Int),.int .i64 A.mtime,.string ⟨A.target.toArray⟩,v'])∧XsAt w'' v' A.xs∧(∀ b∈xob A.xs v',w'.heap.size≤b)∧Below w'.heap.size w' w''):=hid (fun w' hb=>own_any w' A v (HX3.out.kept hb.size (fun b hb'=>hb.block b (HX3.out.lt b hb'))) hxl)
   refine wp_region_held_drew (S:=(fun w':World=>w'.cell? ⟨r,2,none⟩=some (.int .u64 ((T.most:Int)+1))∧w'.rangeAt w.heap.size 0 (A.cells v).toArray.toList)) (by kernel_rfl) (KS.out _ HBD.out) (fun zh=>?_)
   iterate 5
    first|refine' tj 0 rfl rfl (fun _ _ _ h=>h) ?_ zh ?_|refine' tj 1 rfl rfl (fun _ _ _ h=>h) ?_ zh ?_|refine' tj 2 rfl rfl (fun _ _ _ h=>h) ?_ zh ?_|refine' tj 3 rfl rfl (fun _ _ _ h=>h) ?_ zh ?_|refine' tj 4 rfl rfl (fun _ _ _ h=>h) ?_ zh ?_
    rotate_left
    · intro wS hS;obtain⟨k0,k1⟩:=hS;go_simp;try rfl
    try simp only[Act.put,zA,zB,zC,zD,zE,zF]
   refine' wpAnyH_take (i:=5) (v:=_) rfl (by kernel_rfl) (by kernel_rfl) (by kernel_rfl) (fun _ _ _ h=>h) (yieldsIf_load_mid (by rfl) _ _ rfl w.heap.size 0 rfl (A.cells v).toArray.toList _ ?aa5S ?aa5u ?aa5d ?aa5i) zh ?aa5x
   case aa5S=>intro wS hS;exact hS.2
   case aa5u=>exact Tryz.underlying79
   case aa5d=>rfl
   case aa5i=>exact infoAt A v
   try simp only[Act.put,zA,zB,zC,zD,zE,zF]
   refine' tk 7 rfl (fun _ _ _ h=>h) ?aa6 zh ?_
   case aa6=>intro wS hS;obtain⟨k0,k1⟩:=hS;go_simp;try rfl
   try simp only[Act.put,zA,zB,zC,zD,zE,zF]
   refine wpAnyH_ready (rs:=[6]) (by kernel_rfl) (by simp) ?_
   refine AllReadyH.cons rfl (fun K hK=>?_) AllReadyH.nil
   go_simp
   refine(OW.out _ HBD.out).mono ?_
   rintro ex w4 ⟨v4,rfl,hx4,hf4,hb4⟩
   have HB34:Hid (Below w3.heap.size w3 w4):=hid (HBD.out.trans (hb4.mono HBD.out.size))
   have HX4:=hid hx4;have HF4:=hid hf4
   obtain⟨a4,c4,rfl,_⟩:=hx4
   clear hf4 hb4
   go_wp2_with fail
   refine hK.out _ _ (KS.out _ HB34.out) ?_
   clear hK K zh
   intro zh
   try simp only[Act.put,zA,zB,zC,zD,zE,zF]
   refine' tk 8 rfl (fun _ _ _ h=>h) ?aa8 zh ?_
   case aa8=>intro wS hS;obtain⟨k0,k1⟩:=hS;go_simp;try rfl
   try simp only[Act.put,zA,zB,zC,zD,zE,zF]
   refine wpAnyH_ready (rs:=[9]) (by kernel_rfl) (by simp) ?_
   refine AllReadyH.cons rfl (fun K hK=>?_) AllReadyH.nil
   go_simp
   refine hK.out _ _ (KS.out _ (HB34.out.alloc HB34.out.size _)) ?_
   clear hK K zh
   intro zh
   try simp only[Act.put,zA,zB,zC,zD,zE,zF]
   refine' tk 10 rfl (fun _ _ _ h=>h) ?aa10 zh ?_
   case aa10=>intro wS hS;obtain⟨k0,k1⟩:=hS;go_simp;try rfl
   try simp only[Act.put,zA,zB,zC,zD,zE,zF]
   refine wpAnyH_done (by kernel_rfl) ?_ _
   clear zh
   try simp only[Act.put,zA,zB,zC,zD,zE,zF]
   have HNF:Hid (∀ b∈xob A.xs (.slice a4 A.xs.length c4),w3.heap.size≤b):=hid HF4.out
   obtain⟨gl,cl,hvl,_,_,hst⟩:=HP2.out.front HNE.out
   injection hvl with e1 e2 e3
   subst e1 e3
   clear e2
   obtain⟨sl,hsl⟩:∃ sl,sl=(splitL p).getLast HNE.out:=⟨_,rfl⟩
   have HLS:Hid (splitL p=u.nm++[sl]):=hid (by rw[HUN.out,hsl];exact(List.dropLast_concat_getLast HNE.out).symm)
   have HSLL:Hid (sl.length≤maxLen):=hid (HP2.out.len sl (by rw[hsl];exact List.getLast_mem _))
   obtain⟨g',cap',hv',hgl',hgB',_,hcl'⟩:=rowS_form HP2.out.row (by have:=List.length_pos_iff.2 HNE.out;omega)
   injection hv' with e1 e2 e3
   injection e1 with e1
   injection e1 with e1
   subst e1 e3
   have HSS:Hid (w2.heap.size≤w3.heap.size):=hid HT23.out.size
   have HGL:Hid (gl < w3.heap.size):=hid (Nat.lt_of_lt_of_le hgl' HSS.out)
   have HGW:Hid (w.heap.size≤gl):=hid (Nat.le_trans HB0.out.size hgB')
   have HSL:Hid (w3.cell? ⟨gl,(splitL p).length - 1,none⟩=some (.string ⟨sl.toArray⟩)):=hid (by
    rw[World.cell?_of_block (a:=⟨gl,(splitL p).length - 1,none⟩) (HT23.out.block gl hgl' (by have:=HRQ.out;have:=HGW.out;simp;omega))]
    refine hcl' _ _ ?_
    rw[List.getElem?_map,←List.getLast?_eq_getElem?]
    have hg:(splitL p).getLast? =some sl:=by rw[hsl];first|exact List.getLast?_eq_some_getLast HNE.out|exact List.getLast?_eq_getLast HNE.out|exact List.getLast?_eq_getLast_of_ne_nil HNE.out
    rw[hg];rfl)
   have HUL:Hid (ub < w.heap.size):=hid (H.out.lt ub (by have:=ownL_mem2 HUM.out HUB.out;simp[this]))
   have HS4:Hid (w.heap.size≤w3.heap.size∧w3.heap.size≤w4.heap.size):=hid ⟨by have:=HB2.out.size;have:=HT23.out.size;omega,HB34.out.size⟩
   have hlen0:(0:Int)≤((splitL p).length:Int) - 1:=by have:=List.length_pos_iff.2 HNE.out;omega
   have hlen2:(1:Int)≤((splitL p).length:Int):=by omega
   have hlen1:((splitL p).length:Int) - 1 < ((splitL p).length:Int):=by omega
   have hlenw:IntKind.i64.wrap (((splitL p).length:Int) - 1)=((splitL p).length:Int) - 1:=by rw[IntKind.wrap_i64];have:=HLN.out;omega
   have hlent:(((splitL p).length:Int) - 1).toNat=(splitL p).length - 1:=by omega
   clear hsl hst hgl' hgB' hcl'
   obtain⟨w5,hw5⟩:∃ w5,w5=w4.alloc (.cells #[.int .u64 ((T.most:Int)+1),.int .i64 0,.int .u8 (A.node:Int),.int .u32 (A.mode:Int),.int .u32 (A.uid:Int),.int .u32 (A.gid:Int),.int .i64 A.mtime,.string ⟨A.target.toArray⟩,.slice a4 A.xs.length c4,.string ⟨d.toArray⟩,.map none] NdT):=⟨_,rfl⟩
   have HC5:Hid (w5.heap[w4.heap.size]? =some (.cells #[.int .u64 ((T.most:Int)+1),.int .i64 0,.int .u8 (A.node:Int),.int .u32 (A.mode:Int),.int .u32 (A.uid:Int),.int .u32 (A.gid:Int),.int .i64 A.mtime,.string ⟨A.target.toArray⟩,.slice a4 A.xs.length c4,.string ⟨d.toArray⟩,.map none] NdT)):=hid (by rw[hw5];exact(MapKept.heap_alloc w4 _).1)
   have HB45:Hid (Below w4.heap.size w4 w5):=hid (by rw[hw5];exact(Below.refl _ _).alloc (Nat.le_refl _) _)
   have HS5:Hid (w5.heap.size=w4.heap.size+1):=hid (by rw[hw5,one_size])
   have HB35:Hid (Below w3.heap.size w3 w5):=hid (HB34.out.trans (HB45.out.mono HB34.out.size))
   rw[←hw5]
   clear hw5
   have c50:w5.cell? ⟨w.heap.size,0,none⟩=some (.int .u8 (A.node:Int)):=(KS.out _ HB35.out).2 0 _ rfl
   have hmm:= @run_makeMap Tryz.prog
   by_cases hnd:A.node=2
   · have hb2:(((A.node:Nat):Int)==2)=true:=by rw[beq_iff_eq];omega
     have HKI:Hid (A.node=2 ↔ (some w5.heap.size:Option Nat)≠none):=hid ⟨fun _=>by simp,fun _=>hnd⟩
     clear hnd
     have c5k:(w5.alloc (.map #[] 0)).cell? ⟨w4.heap.size,10,none⟩=some (.map none):=cell_of_heap (at_alloc HC5.out _)
     have f5k:(w5.alloc (.map #[] 0)).frozen? ⟨w4.heap.size,10,none⟩=false:=frozen_of_heap (at_alloc HC5.out _)
     go_wp2
     obtain⟨w6,hw6⟩:∃ w6,w6=(w5.alloc (.map #[] 0)).setCell ⟨w4.heap.size,10,none⟩ (.map (some w5.heap.size)):=⟨_,rfl⟩
     rw[←hw6]
     have HC6:Hid (w6.heap[w4.heap.size]? =some (.cells (TE.cells ⟨splitL p,T.most+1,0,A,d,w4.heap.size,some w5.heap.size,.slice a4 A.xs.length c4⟩).toArray NdT)):=hid (by rw[hw6,setCell_heap _ _ _ _ _ _ (at_alloc HC5.out _)];rfl)
     have HB56:Hid (Below w4.heap.size w5 w6):=hid (by rw[hw6];exact((Below.refl w4.heap.size w5).alloc (by have:=HS5.out;omega) _).setCell (p:=⟨w4.heap.size,10,none⟩) (Nat.le_refl _) _)
     have HB46:Hid (Below w4.heap.size w4 w6):=hid (HB45.out.trans HB56.out)
     have HB36:Hid (Below w3.heap.size w3 w6):=hid (HB34.out.trans (HB46.out.mono HB34.out.size))
     have hm6:w6.ownsMap Tryz.prog 9 Rv w5.heap.size 1000000 (toD ptr ([]:MV Nat)):=by
      have h1:(w5.alloc (.map #[] 0)).ownsMap Tryz.prog 9 Rv w5.heap.size 1000000 (toD ptr ([]:MV Nat)):=map_tight (enc:=ptr) (m:=([]:MV Nat)) (World.ownsMap_made w5 Tryz.prog 9 Rv) (by decide)
      rw[hw6]
      exact ownsMap_block h1 (Below.heap_setCell _ _ _ _ (by have:=HS5.out;show w5.heap.size≠w4.heap.size;omega))
     have HM6:Hid (∀ w',Turn [ub] w6 w'→∀ b,(some w5.heap.size:Option Nat)=some b→w'.ownsMap Tryz.prog 9 Rv b 1000000 (toD ptr ([]:MV Nat))):=hid (fun w' ht b hb=>by
      obtain rfl:=Option.some.inj hb
      refine ownsMap_block hm6 (ht.block _ hm6.lt (by have:=HUL.out;have:=HS4.out;have:=HS5.out;simp;omega)))
     have HOW:Hid (∀ b∈ownE ⟨splitL p,T.most+1,0,A,d,w4.heap.size,some w5.heap.size,.slice a4 A.xs.length c4⟩,w3.heap.size≤b):=hid (fun b hb=>by have:=HS4.out;have:=HS5.out;simp[ownE] at hb;omega)
     have HND:Hid (ownE ⟨splitL p,T.most+1,0,A,d,w4.heap.size,some w5.heap.size,.slice a4 A.xs.length c4⟩).Nodup:=hid (by have:=HS5.out;simp[ownE];omega)
     have HOX:Hid (∀ b∈ownE ⟨splitL p,T.most+1,0,A,d,w4.heap.size,some w5.heap.size,.slice a4 A.xs.length c4⟩,¬ b < w4.heap.size):=hid (fun b hb=>by have:=HS5.out;simp[ownE] at hb;omega)
     clear hm6 hw6 c5k f5k c50
     obtain⟨n,hn⟩:∃ n:TE,n=⟨splitL p,T.most+1,0,A,d,w4.heap.size,some w5.heap.size,.slice a4 A.xs.length c4⟩:=⟨_,rfl⟩
     have HNP:Hid (n.p=w4.heap.size):=hid (by rw[hn])
     have HNM:Hid (n.m=some w5.heap.size):=hid (by rw[hn])
     have HQ6:Hid (w6.heap[w4.heap.size]? =some (.cells n.cells.toArray NdT)):=hid (by rw[hn];exact HC6.out)
     have H6:=hid (H3.out.below HB36.out)
     have KS6:Hid (∀ w',Below w6.heap.size w6 w'→w'.cell? ⟨u.p,10,none⟩=some (.map (some ub))∧w'.cell? ⟨gl,(splitL p).length - 1,none⟩=some (.string ⟨sl.toArray⟩)):=hid (fun w' hb=>by
      refine⟨?_,(hb.cell (p:=⟨gl,(splitL p).length - 1,none⟩) (Nat.lt_of_lt_of_le HGL.out HB36.out.size)).trans ((HB36.out.cell (p:=⟨gl,(splitL p).length - 1,none⟩) HGL.out).trans HSL.out)⟩
      have hcu:w'.cell? ⟨u.p,10,none⟩=some (mapV u.m):=cell_of_heap ((H6.out.below hb).node u HUM.out).cells
      rw[HUB.out] at hcu;exact hcu)
     have hmapu:=((H6.out.below (Below.refl _ _).drew).node u HUM.out).kids ub HUB.out
     have hfree:∀ x∈T.L,x.nm≠splitL p:=getT_none.1 HG.out
     have hputl:(putM (kidsT T.L u.nm) sl w4.heap.size).length≤1000000:=by
      have h1:=(put_perm sl w4.heap.size (kidsT T.L u.nm)).length_eq
      have h2:(delM (kidsT T.L u.nm) sl).length≤(kidsT T.L u.nm).length:=List.length_filter_le _ _
      have:=HKL.out
      rw[h1,List.length_cons];omega
     obtain⟨w7,hrun7,hmap7,ht7⟩:=kid_store (w:=w6.drew) hmapu sl HSLL.out w4.heap.size hputl
     unfold ptr at hrun7
     have HT7:Hid (Turn [ub] w6 w7):=hid ((Turn.of_below (Below.refl w6.heap.size w6).drew).trans ht7 (fun y hy=> .inl hy))
     have HS17:Hid (w7.cell? ⟨u.p,10,none⟩=some (.map (some ub))∧w7.cell? ⟨gl,(splitL p).length - 1,none⟩=some (.string ⟨sl.toArray⟩)):=hid (by
      obtain⟨k0,k1⟩:=KS6.out _ (Below.refl w6.heap.size w6)
      refine⟨(World.cell?_of_block (a:=⟨u.p,10,none⟩) (HT7.out.block _ (Nat.lt_of_lt_of_le (H3.out.lt u.p (by have:=ownL_mem HUM.out;simp[this])) HB36.out.size) ?_)).trans k0,(World.cell?_of_block (a:=⟨gl,(splitL p).length - 1,none⟩) (HT7.out.block _ (Nat.lt_of_lt_of_le HGL.out HB36.out.size) ?_)).trans k1⟩
      · have hnd:=own_nodE H3.out.own_nod HUM.out
        rw[ownE,List.nodup_cons,HUB.out] at hnd
        simpa using hnd.1
      · have h1:=H.out.lt ub (by have:=ownL_mem2 HUM.out HUB.out;simp[this])
        have:=HGW.out
        simp;omega)
     have HTI:Hid (TreeAt B w7 r {T with most:=T.most+1,L:=insT n T.L}):=hid (by
      refine H3.out.ins (n:=n) (u:=u) (ns:=u.nm) (s:=sl) (ub:=ub) (by rw[hn];exact HLS.out) (by rw[hn];exact HG.out) HUM.out rfl HUB.out ?_ ?_ ?_ ?_ ?_ ?_ ?_ ?_ ?_ ?_ HBS.out
      · rw[hn];exact HKI.out
      · rw[HNP.out];exact(HT7.out.block _ (lt_of_heap HQ6.out) (by have:=HUL.out;have:=HS4.out;simp;omega)).trans HQ6.out
      · intro b hb
        rw[HNM.out] at hb
        exact HM6.out w7 HT7.out b hb
      · rw[hn]
        refine(HX4.out.kept HB46.out.size (fun b hb=>HB46.out.block b (HX4.out.lt b hb))).kept HT7.out.size (fun b hb=>HT7.out.block b (Nat.lt_of_lt_of_le (HX4.out.lt b hb) HB46.out.size) ?_)
        have:=HF4.out b hb;have:=HUL.out;have:=HS4.out
        have:w3.drew.heap.size=w3.heap.size:=rfl
        simp;omega
      · rw[HNP.out];exact hmap7
      · intro b hb hne
        exact(HT7.out.block b (Nat.lt_of_lt_of_le (H3.out.lt b hb) HB36.out.size) (by simpa using hne)).trans (HB36.out.block b (H3.out.lt b hb))
      · exact Nat.le_trans HB36.out.size HT7.out.size
      · intro b hb
        rw[hn] at hb
        rcases List.mem_append.1 hb with hb|hb
        · exact HOW.out b hb
        · have:=HF4.out b hb
          exact this
      · rw[hn];exact HND.out
      · intro b hb
        rw[hn] at hb ⊢
        have h1:=HX4.out.lt b hb
        exact fun h=>HOX.out b h h1)
     clear hmapu hfree hmap7 ht7 hputl
     go_wp2
     refine wp_region_held_drew (S:=(fun w':World=>w'.cell? ⟨u.p,10,none⟩=some (.map (some ub))∧w'.cell? ⟨gl,(splitL p).length - 1,none⟩=some (.string ⟨sl.toArray⟩))) (by kernel_rfl) (KS6.out _ (Below.refl w6.heap.size w6).drew) (fun zh=>?_)
     iterate 11
      first|refine' tj 0 rfl rfl (fun _ _ _ h=>h) ?_ zh ?_|refine' tj 1 rfl rfl (fun _ _ _ h=>h) ?_ zh ?_|refine' tj 2 rfl rfl (fun _ _ _ h=>h) ?_ zh ?_|refine' tj 3 rfl rfl (fun _ _ _ h=>h) ?_ zh ?_|refine' tj 4 rfl rfl (fun _ _ _ h=>h) ?_ zh ?_|refine' tj 5 rfl rfl (fun _ _ _ h=>h) ?_ zh ?_|refine' tj 6 rfl rfl (fun _ _ _ h=>h) ?_ zh ?_|refine' tj 7 rfl rfl (fun _ _ _ h=>h) ?_ zh ?_|refine' tj 8 rfl rfl (fun _ _ _ h=>h) ?_ zh ?_|refine' tj 9 rfl rfl (fun _ _ _ h=>h) ?_ zh ?_|refine' tj 10 rfl rfl (fun _ _ _ h=>h) ?_ zh ?_
      rotate_left
      · intro wS hS;obtain⟨k0,k1⟩:=hS;go_simp;try rfl
      try simp only[Act.put,zA,zB,zC,zD,zE,zF]
     refine wpAnyH_ready (rs:=[11]) (by kernel_rfl) (by simp) ?_
     refine AllReadyH.cons rfl (fun K hK=>?_) AllReadyH.nil
     go_simp
     refine hK.out _ _ HS17.out ?_
     clear hK K zh
     intro zh
     try simp only[Act.put,zA,zB,zC,zD,zE,zF]
     refine wpAnyH_done (by kernel_rfl) ?_ _
     clear zh
     try simp only[Act.put,zA,zB,zC,zD,zE,zF]
     obtain⟨W8,hW8⟩:∃ W8,W8=w7:=⟨_,rfl⟩
     have HPW:Hid (∃ e∈insT n T.L,e.p=w4.heap.size):=hid ⟨n,mem_insT.2 (.inl rfl),HNP.out⟩
     have HPU:Hid (∃ e∈insT n T.L,e.p=u.p):=hid ⟨u,mem_insT.2 (.inr HUM.out),rfl⟩
     go_wp2_with fail
     refine(touch_any B _ r {T with most:=T.most+1,L:=insT n T.L} _ [w4.heap.size,u.p] ?_ ?_ ?_ (by have:=HCL.out;show T.clock < _;omega) (HTI.out.below ((Below.refl _ _).alloc (Nat.le_refl _) _))).mono ?_
     · refine⟨some ⟨w7.heap.size,0,none⟩,2,rfl,by simp,fun _=>⟨w7.heap.size,0,rfl,by rw[one_size];omega,fun i q hq=>?_⟩⟩
       match i,hq with
       |0,hq=>obtain rfl:=Option.some.inj hq;exact cell_of_heap (MapKept.heap_alloc w7 _).1
       |1,hq=>obtain rfl:=Option.some.inj hq;exact cell_of_heap (MapKept.heap_alloc w7 _).1
     · intro b o n' c' hv hb
       injection hv with e1 _ _
       injection e1 with e1
       injection e1 with e1 _ _
       subst e1
       have:=HTI.out.lt w7.heap.size (by
        rw[List.mem_cons] at hb ⊢
        rcases hb with hb|hb
        · exact .inl hb
        · exact .inr (List.mem_append_left _ hb))
       omega
     · intro q hq
       rw[List.mem_cons,List.mem_singleton] at hq
       rcases hq with rfl|rfl
       · exact HPW.out
       · exact HPU.out
     · rintro ex w9 ⟨rfl,ht9,hu9⟩
       have HT9:=hid ht9;have HU9:=hid hu9
       clear ht9 hu9
       go_wp2
       go_ret
       refine⟨by rw[HADD.out];rfl,fun h0=>absurd HADD.out h0,fun _=>⟨n,u,HUM.out,HUN.out,by rw[hn],by rw[hn],by rw[hn],by rw[hn],by rw[hn],?_,?_,fun b hb=>?_⟩⟩
       · rw[HNP.out];exact HT9.out
       · have t1:Turn (r::ownL T.L) w w3:=(Turn.of_below HB2.out).trans HT23.out (fun y hy=> .inl (by simp at hy;simp[hy]))
         have t2:Turn (r::ownL T.L) w w6:=t1.trans (Turn.of_below (X:=[]) (HB36.out)) (fun y hy=>by cases hy)
         have t3:Turn (r::ownL T.L) w w7:=t2.trans HT7.out (fun y hy=> .inl (by simp at hy;subst hy;have:=ownL_mem2 HUM.out HUB.out;simp[this]))
         refine(t3.alloc (Obj.cells #[ptr w4.heap.size,ptr u.p] 74)).trans HU9.out (fun y hy=>?_)
         rw[List.mem_cons] at hy
         rcases hy with rfl|hy
         · exact .inl (by simp)
         · have hy:y∈ownL (insT n T.L):=hy
           rw[(own_ins n T.L).mem_iff,List.mem_append] at hy
           rcases hy with hy|hy
           · right
             have h1:w3.heap.size≤y:=HOW.out y (by rw[hn] at hy;exact hy)
             have:=HB2.out.size;have:=HT23.out.size
             omega
           · exact .inl (by simp[hy])
       · rw[hn] at hb
         have:=HS4.out
         rcases List.mem_append.1 hb with hb|hb
         · have:=HOW.out b hb;omega
         · have:=HNF.out b hb;omega
   · have hb2:(((A.node:Nat):Int)==2)=false:=by rw[beq_eq_false_iff_ne];omega
     have HKI:Hid (A.node=2 ↔ (none:Option Nat)≠none):=hid ⟨fun h=>absurd h hnd,fun h=>absurd rfl h⟩
     clear hnd
     have HBX:=HB35
     obtain⟨w6,hw6⟩:∃ w6,w6=w5:=⟨_,rfl⟩
     subst hw6
     have HC6:Hid (w6.heap[w4.heap.size]? =some (.cells (TE.cells ⟨splitL p,T.most+1,0,A,d,w4.heap.size,none,.slice a4 A.xs.length c4⟩).toArray NdT)):=HC5
     have HB46:=HB45
     have HB36:=HB35
     have HM6:Hid (∀ w',Turn [ub] w6 w'→∀ b,(none:Option Nat)=some b→w'.ownsMap Tryz.prog 9 Rv b 1000000 (toD ptr ([]:MV Nat))):=hid (fun w' ht b hb=>by cases hb)
     have HOW:Hid (∀ b∈ownE ⟨splitL p,T.most+1,0,A,d,w4.heap.size,none,.slice a4 A.xs.length c4⟩,w3.heap.size≤b):=hid (fun b hb=>by have:=HS4.out;simp[ownE] at hb;omega)
     have HND:Hid (ownE ⟨splitL p,T.most+1,0,A,d,w4.heap.size,none,.slice a4 A.xs.length c4⟩).Nodup:=hid (by simp[ownE])
     have HOX:Hid (∀ b∈ownE ⟨splitL p,T.most+1,0,A,d,w4.heap.size,none,.slice a4 A.xs.length c4⟩,¬ b < w4.heap.size):=hid (fun b hb=>by simp[ownE] at hb;omega)
     obtain⟨n,hn⟩:∃ n:TE,n=⟨splitL p,T.most+1,0,A,d,w4.heap.size,none,.slice a4 A.xs.length c4⟩:=⟨_,rfl⟩
     have HNP:Hid (n.p=w4.heap.size):=hid (by rw[hn])
     have HNM:Hid (n.m=none):=hid (by rw[hn])
     have HQ6:Hid (w6.heap[w4.heap.size]? =some (.cells n.cells.toArray NdT)):=hid (by rw[hn];exact HC6.out)
     have H6:=hid (H3.out.below HB36.out)
     have KS6:Hid (∀ w',Below w6.heap.size w6 w'→w'.cell? ⟨u.p,10,none⟩=some (.map (some ub))∧w'.cell? ⟨gl,(splitL p).length - 1,none⟩=some (.string ⟨sl.toArray⟩)):=hid (fun w' hb=>by
      refine⟨?_,(hb.cell (p:=⟨gl,(splitL p).length - 1,none⟩) (Nat.lt_of_lt_of_le HGL.out HB36.out.size)).trans ((HB36.out.cell (p:=⟨gl,(splitL p).length - 1,none⟩) HGL.out).trans HSL.out)⟩
      have hcu:w'.cell? ⟨u.p,10,none⟩=some (mapV u.m):=cell_of_heap ((H6.out.below hb).node u HUM.out).cells
      rw[HUB.out] at hcu;exact hcu)
     have hmapu:=((H6.out.below (Below.refl _ _).drew).node u HUM.out).kids ub HUB.out
     have hfree:∀ x∈T.L,x.nm≠splitL p:=getT_none.1 HG.out
     have hputl:(putM (kidsT T.L u.nm) sl w4.heap.size).length≤1000000:=by
      have h1:=(put_perm sl w4.heap.size (kidsT T.L u.nm)).length_eq
      have h2:(delM (kidsT T.L u.nm) sl).length≤(kidsT T.L u.nm).length:=List.length_filter_le _ _
      have:=HKL.out
      rw[h1,List.length_cons];omega
     obtain⟨w7,hrun7,hmap7,ht7⟩:=kid_store (w:=w6.drew) hmapu sl HSLL.out w4.heap.size hputl
     unfold ptr at hrun7
     have HT7:Hid (Turn [ub] w6 w7):=hid ((Turn.of_below (Below.refl w6.heap.size w6).drew).trans ht7 (fun y hy=> .inl hy))
     have HS17:Hid (w7.cell? ⟨u.p,10,none⟩=some (.map (some ub))∧w7.cell? ⟨gl,(splitL p).length - 1,none⟩=some (.string ⟨sl.toArray⟩)):=hid (by
      obtain⟨k0,k1⟩:=KS6.out _ (Below.refl w6.heap.size w6)
      refine⟨(World.cell?_of_block (a:=⟨u.p,10,none⟩) (HT7.out.block _ (Nat.lt_of_lt_of_le (H3.out.lt u.p (by have:=ownL_mem HUM.out;simp[this])) HB36.out.size) ?_)).trans k0,(World.cell?_of_block (a:=⟨gl,(splitL p).length - 1,none⟩) (HT7.out.block _ (Nat.lt_of_lt_of_le HGL.out HB36.out.size) ?_)).trans k1⟩
      · have hnd:=own_nodE H3.out.own_nod HUM.out
        rw[ownE,List.nodup_cons,HUB.out] at hnd
        simpa using hnd.1
      · have h1:=H.out.lt ub (by have:=ownL_mem2 HUM.out HUB.out;simp[this])
        have:=HGW.out
        simp;omega)
     have HTI:Hid (TreeAt B w7 r {T with most:=T.most+1,L:=insT n T.L}):=hid (by
      refine H3.out.ins (n:=n) (u:=u) (ns:=u.nm) (s:=sl) (ub:=ub) (by rw[hn];exact HLS.out) (by rw[hn];exact HG.out) HUM.out rfl HUB.out ?_ ?_ ?_ ?_ ?_ ?_ ?_ ?_ ?_ ?_ HBS.out
      · rw[hn];exact HKI.out
      · rw[HNP.out];exact(HT7.out.block _ (lt_of_heap HQ6.out) (by have:=HUL.out;have:=HS4.out;simp;omega)).trans HQ6.out
      · intro b hb
        rw[HNM.out] at hb
        exact HM6.out w7 HT7.out b hb
      · rw[hn]
        refine(HX4.out.kept HB46.out.size (fun b hb=>HB46.out.block b (HX4.out.lt b hb))).kept HT7.out.size (fun b hb=>HT7.out.block b (Nat.lt_of_lt_of_le (HX4.out.lt b hb) HB46.out.size) ?_)
        have:=HF4.out b hb;have:=HUL.out;have:=HS4.out
        have:w3.drew.heap.size=w3.heap.size:=rfl
        simp;omega
      · rw[HNP.out];exact hmap7
      · intro b hb hne
        exact(HT7.out.block b (Nat.lt_of_lt_of_le (H3.out.lt b hb) HB36.out.size) (by simpa using hne)).trans (HB36.out.block b (H3.out.lt b hb))
      · exact Nat.le_trans HB36.out.size HT7.out.size
      · intro b hb
        rw[hn] at hb
        rcases List.mem_append.1 hb with hb|hb
        · exact HOW.out b hb
        · have:=HF4.out b hb
          exact this
      · rw[hn];exact HND.out
      · intro b hb
        rw[hn] at hb ⊢
        have h1:=HX4.out.lt b hb
        exact fun h=>HOX.out b h h1)
     clear hmapu hfree hmap7 ht7 hputl
     go_wp2
     refine wp_region_held_drew (S:=(fun w':World=>w'.cell? ⟨u.p,10,none⟩=some (.map (some ub))∧w'.cell? ⟨gl,(splitL p).length - 1,none⟩=some (.string ⟨sl.toArray⟩))) (by kernel_rfl) (KS6.out _ (Below.refl w6.heap.size w6).drew) (fun zh=>?_)
     iterate 11
      first|refine' tj 0 rfl rfl (fun _ _ _ h=>h) ?_ zh ?_|refine' tj 1 rfl rfl (fun _ _ _ h=>h) ?_ zh ?_|refine' tj 2 rfl rfl (fun _ _ _ h=>h) ?_ zh ?_|refine' tj 3 rfl rfl (fun _ _ _ h=>h) ?_ zh ?_|refine' tj 4 rfl rfl (fun _ _ _ h=>h) ?_ zh ?_|refine' tj 5 rfl rfl (fun _ _ _ h=>h) ?_ zh ?_|refine' tj 6 rfl rfl (fun _ _ _ h=>h) ?_ zh ?_|refine' tj 7 rfl rfl (fun _ _ _ h=>h) ?_ zh ?_|refine' tj 8 rfl rfl (fun _ _ _ h=>h) ?_ zh ?_|refine' tj 9 rfl rfl (fun _ _ _ h=>h) ?_ zh ?_|refine' tj 10 rfl rfl (fun _ _ _ h=>h) ?_ zh ?_
      rotate_left
      · intro wS hS;obtain⟨k0,k1⟩:=hS;go_simp;try rfl
      try simp only[Act.put,zA,zB,zC,zD,zE,zF]
     refine wpAnyH_ready (rs:=[11]) (by kernel_rfl) (by simp) ?_
     refine AllReadyH.cons rfl (fun K hK=>?_) AllReadyH.nil
     go_simp
     refine hK.out _ _ HS17.out ?_
     clear hK K zh
     intro zh
     try simp only[Act.put,zA,zB,zC,zD,zE,zF]
     refine wpAnyH_done (by kernel_rfl) ?_ _
     clear zh
     try simp only[Act.put,zA,zB,zC,zD,zE,zF]
     obtain⟨W8,hW8⟩:∃ W8,W8=w7:=⟨_,rfl⟩
     have HPW:Hid (∃ e∈insT n T.L,e.p=w4.heap.size):=hid ⟨n,mem_insT.2 (.inl rfl),HNP.out⟩
     have HPU:Hid (∃ e∈insT n T.L,e.p=u.p):=hid ⟨u,mem_insT.2 (.inr HUM.out),rfl⟩
     go_wp2_with fail
     refine(touch_any B _ r {T with most:=T.most+1,L:=insT n T.L} _ [w4.heap.size,u.p] ?_ ?_ ?_ (by have:=HCL.out;show T.clock < _;omega) (HTI.out.below ((Below.refl _ _).alloc (Nat.le_refl _) _))).mono ?_
     · refine⟨some ⟨w7.heap.size,0,none⟩,2,rfl,by simp,fun _=>⟨w7.heap.size,0,rfl,by rw[one_size];omega,fun i q hq=>?_⟩⟩
       match i,hq with
       |0,hq=>obtain rfl:=Option.some.inj hq;exact cell_of_heap (MapKept.heap_alloc w7 _).1
       |1,hq=>obtain rfl:=Option.some.inj hq;exact cell_of_heap (MapKept.heap_alloc w7 _).1
     · intro b o n' c' hv hb
       injection hv with e1 _ _
       injection e1 with e1
       injection e1 with e1 _ _
       subst e1
       have:=HTI.out.lt w7.heap.size (by
        rw[List.mem_cons] at hb ⊢
        rcases hb with hb|hb
        · exact .inl hb
        · exact .inr (List.mem_append_left _ hb))
       omega
     · intro q hq
       rw[List.mem_cons,List.mem_singleton] at hq
       rcases hq with rfl|rfl
       · exact HPW.out
       · exact HPU.out
     · rintro ex w9 ⟨rfl,ht9,hu9⟩
       have HT9:=hid ht9;have HU9:=hid hu9
       clear ht9 hu9
       go_wp2
       go_ret
       refine⟨by rw[HADD.out];rfl,fun h0=>absurd HADD.out h0,fun _=>⟨n,u,HUM.out,HUN.out,by rw[hn],by rw[hn],by rw[hn],by rw[hn],by rw[hn],?_,?_,fun b hb=>?_⟩⟩
       · rw[HNP.out];exact HT9.out
       · have t1:Turn (r::ownL T.L) w w3:=(Turn.of_below HB2.out).trans HT23.out (fun y hy=> .inl (by simp at hy;simp[hy]))
         have t2:Turn (r::ownL T.L) w w6:=t1.trans (Turn.of_below (X:=[]) (HB36.out)) (fun y hy=>by cases hy)
         have t3:Turn (r::ownL T.L) w w7:=t2.trans HT7.out (fun y hy=> .inl (by simp at hy;subst hy;have:=ownL_mem2 HUM.out HUB.out;simp[this]))
         refine(t3.alloc (Obj.cells #[ptr w4.heap.size,ptr u.p] 74)).trans HU9.out (fun y hy=>?_)
         rw[List.mem_cons] at hy
         rcases hy with rfl|hy
         · exact .inl (by simp)
         · have hy:y∈ownL (insT n T.L):=hy
           rw[(own_ins n T.L).mem_iff,List.mem_append] at hy
           rcases hy with hy|hy
           · right
             have h1:w3.heap.size≤y:=HOW.out y (by rw[hn] at hy;exact hy)
             have:=HB2.out.size;have:=HT23.out.size
             omega
           · exact .inl (by simp[hy])
       · rw[hn] at hb
         have:=HS4.out
         rcases List.mem_append.1 hb with hb|hb
         · have:=HOW.out b hb;omega
         · have:=HNF.out b hb;omega
end Go.Proofs.YtnmejonfdfdegaaGreatDoor.Sr
