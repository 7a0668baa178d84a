import Derived.Test.YtnmejonfdfdegaaGreatDoorZPZz
import Derived.Test.YtnmejonfdfdegaaGreatDoorZPRtLook
import Derived.Test.YtnmejonfdfdegaaGreatDoorZPSrTwin
import Derived.Test.YtnmejonfdfdegaaGreatDoorZPStEncode
import Derived.Test.YtnmejonfdfdegaaGreatDoorZPSrAlike
set_option linter.unusedSimpArgs false
set_option linter.unusedVariables false
set_option maxHeartbeats 8000000
set_option maxRecDepth 100000
namespace Go.Proofs.YtnmejonfdfdegaaGreatDoor.Sr
open Go.RowKit Go.Maps Go.WideMaps Rf Go.Proofs.YtnmejonfdfdegaaGreatDoor.Nm St
open Lib (hid)
def zeroRn:Value:= .agg (.slice none 0 0::(zeroA.cells (.slice none 0 0)++[.string ⟨#[]⟩,.int .u64 0,.int .i64 0])).toArray
theorem infoRn:(Tryz.prog.info? RnT).map (fun i=>(i.zero,i.size,i.bytes))=some (some zeroRn,11,120):=by kernel_rfl
theorem infoRn1 (n:RN):(Tryz.prog.info? RnT).map (·.size)=some n.cells.toArray.size:=by show _=some 11;kernel_rfl
theorem RTree.ones {B:Nat} {w:World} {r:Nat} {v:Value} {R:List RN} {F:Tr} (h:RTree B w r v R F) {n:RN} (hn:n∈R):∀ u∈n.cells,u.oneCell'=true:=
 rn_ones (strs_one (h.node n hn).1.strs) (xs_one (h.node n hn).2)
theorem rtree_relist {B:Nat} {w:World} {r:Nat} {v vo:Value} {R:List RN} {F:Tr} (hq:w.heap[r]? =some (.cells #[v,.int .i64 (F.clock:Int),.int .u64 (F.most:Int),.int .i64 (F.reads:Int)] RtT)) (ho:w.ownsRow B RnT 11 vo R.length (rcells R)) (hr:r ∉ ob vo) (hB:B≤r)
 (hn:∀ m∈R,PathAt B w m.nv m.nm∧XsAt w m.xv m.at_.xs) (ha:∀ b∈robL R,B≤b∧b≠r∧b ∉ ob vo):RTree B (w.setCell ⟨r,0,none⟩ vo) r vo R {F with L:=R.map RN.te}:=by
 have hk:∀ b,b≠r→(w.setCell ⟨r,0,none⟩ vo).heap[b]? =w.heap[b]? :=fun b hb=>Below.heap_setCell _ _ _ _ hb
 refine⟨by rw[setCell_heap _ _ _ _ _ _ hq];rfl,rowS_kept ho (fun b hb _=>hk b (fun h=>hr (h ▸ hb))),fun x hx h=>hr (h ▸ hx),hB,fun m hm=>⟨?_,?_⟩,ha,rfl⟩
 · exact(hn m hm).1.kept (fun b hb=>hk b (ha b (robL_mem hm (List.mem_append_left _ hb))).2.1)
 · exact(hn m hm).2.kept (by rw[World.size_setCell];exact Nat.le_refl _) (fun b hb=>hk b (ha b (robL_mem hm (List.mem_append_right _ hb))).2.1)
theorem robL_ins {n:RN} {R:List RN} {b:Nat} (h:b∈robL (insR n R)):b∈robN n∨b∈robL R:=by
 obtain⟨m,hm,hb⟩:=List.mem_flatMap.1 h
 rcases insR_mem.1 hm with rfl|hm
 · exact .inl hb
 · exact .inr (robL_mem hm hb)
def PutPost (B:Nat) (w:World) (r:Nat) (R:List RN) (F:Tr) (n:RN) (e:Ending) (w':World):Prop:=
 e= .returned (.tuple #[])∧∃ v',RTree B w' r v' (insR n R) {F with L:=insT n.te F.L}∧Turn [r] w w'∧∀ b∈ob v',w.heap.size≤b
theorem put_end {B:Nat} {w W w1:World} {r:Nat} {v vo:Value} {R:List RN} {F:Tr} {n:RN} (h:RTree B w r v R F) (hp:PathAt B w n.nv n.nm) (hx:XsAt w n.xv n.at_.xs) (hnb:∀ b∈robN n,B≤b∧b≠r) (hBw:B≤w.heap.size) (h0:Below w.heap.size w W) (hb:Below W.heap.size W w1) (ho:w1.ownsRow W.heap.size RnT 11 vo (insR n R).length (rcells (insR n R))):
 PutPost B w r R F n (.returned (.tuple #[])) (w1.setCell ⟨r,0,none⟩ vo):=by
 have hb1:Below w.heap.size w w1:=h0.trans (hb.mono h0.size)
 have hge:∀ b∈ob vo,w.heap.size≤b:=fun b hb=>Nat.le_trans h0.size (rowS_ge ho b hb)
 have h1:=h.below hb1
 have hr:=lt_of_heap h.book
 have hall:∀ m∈insR n R,PathAt B w1 m.nv m.nm∧XsAt w1 m.xv m.at_.xs:=fun m hm=>by
  rcases insR_mem.1 hm with rfl|hm
  · exact⟨hp.below hb1,hx.kept hb1.size (fun b hb=>hb1.block b (hx.lt b hb))⟩
  · exact h1.node m hm
 have hap:∀ b∈robL (insR n R),B≤b∧b≠r∧b ∉ ob vo:=fun b hb=>by
  rcases robL_ins hb with hb|hb
  · refine⟨(hnb b hb).1,(hnb b hb).2,fun hv=>?_⟩
    have:=hge b hv
    rcases List.mem_append.1 hb with hb|hb
    · have:=rowS_lt hp.row b hb;omega
    · have:=hx.lt b hb;omega
  · refine⟨(h.apart b hb).1,(h.apart b hb).2.1,fun hv=>?_⟩
    have:=hge b hv
    have:=h.lt b (by rw[rblk,List.mem_cons,List.mem_append];exact .inr (.inr hb))
    omega
 refine⟨rfl,vo,?_,(Turn.of_below hb1).trans ((Turn.refl [r] w1).setCell (p:=⟨r,0,none⟩) (.inl (by simp)) vo) (fun y hy=> .inl hy),hge⟩
 have:=rtree_relist (F:=F) h1.book (row_mono ho (Nat.le_trans hBw h0.size)) (fun hv=>by have:=hge r hv;omega) h.base hall hap
 rw[insR_te,←h.is] at this
 exact this
theorem put_any (B:Nat) (w:World) (r:Nat) (v:Value) (R:List RN) (F:Tr) (n:RN) (hp:PathAt B w n.nv n.nm) (hx:XsAt w n.xv n.at_.xs) (hnb:∀ b∈robN n,B≤b∧b≠r) (hBw:B≤w.heap.size) (hlen:R.length≤1000000) (h:RTree B w r v R F):
 Calls Tryz.prog 72 #[ptr r,rnV n] w (PutPost B w r R F n):=by
 obtain⟨i0,hi0,hz0,hz1,hz2⟩:=info_parts infoRn
 have hz3:zeroRn.cells.size=11:=by kernel_rfl
 obtain⟨W,hW⟩:∃ W,W=w.alloc (.cells n.cells.toArray RnT):=⟨_,rfl⟩
 have hb0:Below w.heap.size w W:=by rw[hW];exact(Below.refl _ _).alloc (Nat.le_refl _) _
 have hq0:W.heap[w.heap.size]? =some (.cells n.cells.toArray RnT):=by rw[hW];exact(MapKept.heap_alloc w _).1
 have FIN:=hid (fun (w1:World) (vo:Value) (hb:Below W.heap.size W w1) ho=>put_end (vo:=vo) h hp hx hnb hBw hb0 hb ho)
 have H0:=hid (h.below hb0)
 have HST:=hid (hp.below hb0).strs
 have nones:=hid (rn_ones (strs_one hp.strs) (xs_one hx))
 have HQ:Hid (∀ w',Below W.heap.size W w'→w'.heap[w.heap.size]? =some (.cells n.cells.toArray RnT)):=hid (fun w' hb=>(hb.block _ (lt_of_heap hq0)).trans hq0)
 obtain⟨na,nc,hnv⟩:=rowS_slice hp.row
 have HNV:=hid hnv
 obtain⟨va,vc,rfl⟩:=rowS_slice h.row
 have HB0:=hid hb0;have HW:=hid hW;have HLEN:=hid hlen
 have HNL:Hid (∀ k,(putL n (R.take k)).length≤R.length+1):=hid (fun k=>by
  rw[putL];split
  · rw[insR_len,List.length_take];omega
  · rw[List.length_take];omega)
 clear hb0 hq0 hW h hp hx hnb hBw hnv
 unfold ptr rnV
 go_enter Tryz.func72,Tryz.ntmps72
 go_wp2
 rw[←HW.out]
 go_loopw [4,5,6] (fun v4 v5 v6 wr=>∃ i:Nat,i≤R.length∧v6= .int .i64 (i:Int)∧v5= .bool (putD n (R.take i))∧Hid (wr.ownsRow W.heap.size RnT 11 v4 (putL n (R.take i)).length (rcells (putL n (R.take i))))∧Hid (Below W.heap.size W wr)) (fun _ _ v6 _=>R.length - (RowKit.intOf v6).toNat)
 case atStart=>exact ⟨0,Nat.zero_le _,rfl,rfl,hid (rowS_nil _ _ _ _),hid (Below.refl _ _)⟩
 case round=>
  obtain⟨i,hi,rfl,rfl,HO,HB⟩:=hrel
  have HX:=hid (H0.out.below HB.out)
  have HBS:Hid (W.heap.size≤wr.heap.size):=hid HB.out.size
  have c0:wr.cell? ⟨r,0,none⟩=some (.slice va R.length vc):=cell_of_heap HX.out.book
  have hnl:=HNL.out i
  by_cases hil:(i:Int) < (R.length:Int)
  · have hi1:i < R.length:=by omega
    obtain⟨y,hy⟩:∃ y,R[i]? =some y:=⟨_,List.getElem?_eq_getElem hi1⟩
    obtain⟨gv,cap,hv,hgv⟩:=HX.out.form (by omega)
    injection hv with e1 e2 e3
    subst e1 e3
    have HYST:=hid (HX.out.node y (List.mem_of_getElem? hy)).1.strs
    obtain⟨ya,yc,hyv⟩:=rowS_slice (HX.out.node y (List.mem_of_getElem? hy)).1.row
    have HYV:=hid hyv
    have yones:=hid (HX.out.ones (List.mem_of_getElem? hy))
    have HENT:=hid (HX.out.ent hy)
    have HTK:Hid (R.take (i+1)=R.take i++[y]):=hid (by rw[List.take_add_one,hy];rfl)
    have KS:Hid (∀ w',Below wr.heap.size wr w'→w'.cell? ⟨w.heap.size,0,none⟩=some (.slice na n.nm.length nc)∧w'.cell? ⟨r,0,none⟩=some (.slice (some ⟨gv,0,none⟩) R.length vc)∧w'.cell? ⟨gv,i*11,none⟩=some (.slice ya y.nm.length yc)):=hid (fun w' hw=>by
     have hX2:=HX.out.below hw
     refine⟨?_,cell_of_heap hX2.book,?_⟩
     · rw[←HNV.out];exact cell_of_heap (HQ.out w' (HB.out.trans (hw.mono HB.out.size)))
     · rw[←HYV.out];exact hX2.ent hy 0 _ rfl)
    have HYI:=hid hy
    clear hyv e2 hy
    cases hd:putD n (R.take i) with
    |true=>
     have HL1:Hid (putL n (R.take (i+1))=putL n (R.take i)++[y]):=hid (by rw[HTK.out];exact putL_done hd)
     have HD1:Hid (putD n (R.take (i+1))=true):=hid (by rw[HTK.out,putD_snoc,hd];rfl)
     clear hd
     generalize putL n (R.take i)=L0 at*
     go_wp2
     go_quiet (fail)
     obtain⟨wz,hwz⟩:∃ wz,wz=wr.drewN nq:=⟨_,rfl⟩
     have HBZ:Hid (Below wr.heap.size wr wz):=hid (by rw[hwz];exact St.below_drewN _ _)
     rw[←hwz]
     clear hwz
     have czd:wz.cell? ⟨r,0,none⟩=some (.slice (some ⟨gv,0,none⟩) R.length vc):=(KS.out _ HBZ.out).2.1
     have HENTd:=hid ((HX.out.below HBZ.out).ent HYI.out)
     have HBS:Hid (W.heap.size≤wz.heap.size):=hid (Nat.le_trans HB.out.size (HBZ.out).size)
     go_wp2_with (first
      |(refine wpList_load_mid rfl _ _ rfl gv (i*11) rfl y.cells _ HENTd.out Tryz.underlying86 rfl (infoRn1 y) ?_)
      |(refine wpList_oneH 11 (by decide) (by decide) rfl 87 RnT (.tmp 42) y.cells i0 _ rfl rfl Tryz.underlying87 hi0 hz0 hz1 rfl ?_
        intro yd wd hhd hgd hyd hsd
        have HHd:=hid hhd;have HGd:=hid hgd;have HYd:=hid hyd;have HSd:=hid hsd
        clear hhd hgd hyd hsd)
      |(refine wpList_appendN 11 (by decide) rfl _ _ 87 rfl W.heap.size RnT i0 _ 120 Tryz.underlying87 hi0 hz0 hz1 hz2 hz3 u4 L0.length (rcells L0) rfl (rowS_kept (rowS_kept HO.out (fun x _ hl=>HBZ.out.block x hl)) (fun x _ hl=>HGd.out.block x hl (fun h=>nomatch h))) _ 1 y.cells rfl HHd.out rfl yones.out (by have:=HLEN.out;unfold maxLen;omega) (by have:=HLEN.out;omega) (by have:=HBS.out;have:=HSd.out;omega) ?_
        intro vd xd hod hgd hvd
        have HOd:=hid hod;have HKd:=hid hgd;have HVd:=hid hvd
        clear hod hgd hvd))
     go_roundw
     case rel=>
      refine⟨i+1,by omega,by go_num,by rw[HD1.out],hid ?_,hid ?_⟩
      · rw[HL1.out,←rcells_one,List.length_append];exact HOd.out
      · exact((HB.out.trans (HBZ.out.mono HB.out.size)).grown HGd.out (Nat.le_trans HB.out.size HBZ.out.size) (fun k hk=>nomatch hk)).grown HKd.out (Nat.le_trans (Nat.le_trans HB.out.size HBZ.out.size) HGd.out.size) (fun x hx=>rowS_ge HO.out x (by simp[ob,hx]))
     case measure=>simp [RowKit.intOf];omega
    |false=>
     have CA:=hid (ahead_any wr.drew n.nv y.nv n.nm y.nm ((HST.out.below HB.out).below (Below.refl _ _).drew) (HYST.out.below (Below.refl _ _).drew))
     rw[HNV.out,HYV.out] at CA
     cases ha:ahd n.nm y.nm with
     |false=>
      have HL1:Hid (putL n (R.take (i+1))=putL n (R.take i)++[y]):=hid (by rw[HTK.out];exact putL_on hd ha)
      have HD1:Hid (putD n (R.take (i+1))=false):=hid (by rw[HTK.out,putD_snoc,hd,ha];rfl)
      rw[ha] at CA
      clear hd ha
      generalize putL n (R.take i)=L0 at*
      go_upto_region 6 with(fail)
      refine wp_region_held_drew (S:=(fun w':World=>w'.cell? ⟨w.heap.size,0,none⟩=some (.slice na n.nm.length nc)∧w'.cell? ⟨r,0,none⟩=some (.slice (some ⟨gv,0,none⟩) R.length vc)∧w'.cell? ⟨gv,i*11,none⟩=some (.slice ya y.nm.length yc))) (by kernel_rfl) (KS.out _ (Below.refl _ _).drew) (fun zh=>?_)
      iterate 10
       first|refine' tj 0 rfl rfl (fun _ _ _ h=>h) ?_ zh ?_|refine' tj 1 rfl rfl (fun _ _ _ h=>h) ?_ zh ?_|refine' tj 2 rfl rfl (fun _ _ _ h=>h) ?_ zh ?_|refine' tj 3 rfl rfl (fun _ _ _ h=>h) ?_ zh ?_|refine' tj 4 rfl rfl (fun _ _ _ h=>h) ?_ zh ?_|refine' tj 5 rfl rfl (fun _ _ _ h=>h) ?_ zh ?_|refine' tj 6 rfl rfl (fun _ _ _ h=>h) ?_ zh ?_|refine' tj 7 rfl rfl (fun _ _ _ h=>h) ?_ zh ?_|refine' tj 8 rfl rfl (fun _ _ _ h=>h) ?_ zh ?_|refine' tj 9 rfl rfl (fun _ _ _ h=>h) ?_ zh ?_
       rotate_left
       · intro wS hS;obtain⟨k0,k1,k2⟩:=hS;go_simp;try rfl
       try simp only[Act.put,zA,zB,zC,zD,zE,zF]
      iterate 3
       first|refine' tj 10 rfl rfl (fun _ _ _ h=>h) ?_ zh ?_|refine' tj 11 rfl rfl (fun _ _ _ h=>h) ?_ zh ?_|refine' tj 12 rfl rfl (fun _ _ _ h=>h) ?_ zh ?_
       rotate_left
       · intro wS hS;obtain⟨k0,k1,k2⟩:=hS;go_simp;try rfl
       try simp only[Act.put,zA,zB,zC,zD,zE,zF]
      refine wpAnyH_ready (rs:=[13]) (by kernel_rfl) (by simp) ?_
      refine AllReadyH.cons rfl (fun K hK=>?_) AllReadyH.nil
      go_simp
      refine CA.out.mono ?_
      rintro ez wz ⟨rfl,hbz⟩
      have HBZ:Hid (Below wr.heap.size wr wz):=hid ((Below.refl wr.heap.size wr).drew.trans hbz)
      clear hbz
      go_wp2_with fail
      refine hK.out _ _ (KS.out _ HBZ.out) ?_
      clear hK K zh
      intro zh
      try simp only[Act.put,zA,zB,zC,zD,zE,zF]
      refine' tk 14 rfl (fun _ _ _ h=>h) ?pa14 zh ?_
      case pa14=>intro wS hS;obtain⟨k0,k1,k2⟩:=hS;go_simp;try rfl
      try simp only[Act.put,zA,zB,zC,zD,zE,zF]
      refine wpAnyH_done (by kernel_rfl) ?_ _
      clear zh
      try simp only[Act.put,zA,zB,zC,zD,zE,zF]
      have czd:wz.cell? ⟨r,0,none⟩=some (.slice (some ⟨gv,0,none⟩) R.length vc):=(KS.out _ HBZ.out).2.1
      have HENTd:=hid ((HX.out.below HBZ.out).ent HYI.out)
      have HBS:Hid (W.heap.size≤wz.heap.size):=hid (Nat.le_trans HB.out.size (HBZ.out).size)
      go_wp2_with (first
       |(refine wpList_load_mid rfl _ _ rfl gv (i*11) rfl y.cells _ HENTd.out Tryz.underlying86 rfl (infoRn1 y) ?_)
       |(refine wpList_oneH 11 (by decide) (by decide) rfl 87 RnT (.tmp 42) y.cells i0 _ rfl rfl Tryz.underlying87 hi0 hz0 hz1 rfl ?_
         intro yd wd hhd hgd hyd hsd
         have HHd:=hid hhd;have HGd:=hid hgd;have HYd:=hid hyd;have HSd:=hid hsd
         clear hhd hgd hyd hsd)
       |(refine wpList_appendN 11 (by decide) rfl _ _ 87 rfl W.heap.size RnT i0 _ 120 Tryz.underlying87 hi0 hz0 hz1 hz2 hz3 u4 L0.length (rcells L0) rfl (rowS_kept (rowS_kept HO.out (fun x _ hl=>HBZ.out.block x hl)) (fun x _ hl=>HGd.out.block x hl (fun h=>nomatch h))) _ 1 y.cells rfl HHd.out rfl yones.out (by have:=HLEN.out;unfold maxLen;omega) (by have:=HLEN.out;omega) (by have:=HBS.out;have:=HSd.out;omega) ?_
         intro vd xd hod hgd hvd
         have HOd:=hid hod;have HKd:=hid hgd;have HVd:=hid hvd
         clear hod hgd hvd))
      go_roundw
      case rel=>
       refine⟨i+1,by omega,by go_num,by rw[HD1.out],hid ?_,hid ?_⟩
       · rw[HL1.out,←rcells_one,List.length_append];exact HOd.out
       · exact((HB.out.trans (HBZ.out.mono HB.out.size)).grown HGd.out (Nat.le_trans HB.out.size HBZ.out.size) (fun k hk=>nomatch hk)).grown HKd.out (Nat.le_trans (Nat.le_trans HB.out.size HBZ.out.size) HGd.out.size) (fun x hx=>rowS_ge HO.out x (by simp[ob,hx]))
      case measure=>simp [RowKit.intOf];omega
     |true=>
      have HL1:Hid (putL n (R.take (i+1))=putL n (R.take i)++[n]++[y]):=hid (by rw[HTK.out];exact putL_here hd ha)
      have HD1:Hid (putD n (R.take (i+1))=true):=hid (by rw[HTK.out,putD_snoc,ha,Bool.or_true])
      rw[ha] at CA
      clear hd ha
      generalize putL n (R.take i)=L0 at*
      go_upto_region 6 with(fail)
      refine wp_region_held_drew (S:=(fun w':World=>w'.cell? ⟨w.heap.size,0,none⟩=some (.slice na n.nm.length nc)∧w'.cell? ⟨r,0,none⟩=some (.slice (some ⟨gv,0,none⟩) R.length vc)∧w'.cell? ⟨gv,i*11,none⟩=some (.slice ya y.nm.length yc))) (by kernel_rfl) (KS.out _ (Below.refl _ _).drew) (fun zh=>?_)
      iterate 10
       first|refine' tj 0 rfl rfl (fun _ _ _ h=>h) ?_ zh ?_|refine' tj 1 rfl rfl (fun _ _ _ h=>h) ?_ zh ?_|refine' tj 2 rfl rfl (fun _ _ _ h=>h) ?_ zh ?_|refine' tj 3 rfl rfl (fun _ _ _ h=>h) ?_ zh ?_|refine' tj 4 rfl rfl (fun _ _ _ h=>h) ?_ zh ?_|refine' tj 5 rfl rfl (fun _ _ _ h=>h) ?_ zh ?_|refine' tj 6 rfl rfl (fun _ _ _ h=>h) ?_ zh ?_|refine' tj 7 rfl rfl (fun _ _ _ h=>h) ?_ zh ?_|refine' tj 8 rfl rfl (fun _ _ _ h=>h) ?_ zh ?_|refine' tj 9 rfl rfl (fun _ _ _ h=>h) ?_ zh ?_
       rotate_left
       · intro wS hS;obtain⟨k0,k1,k2⟩:=hS;go_simp;try rfl
       try simp only[Act.put,zA,zB,zC,zD,zE,zF]
      iterate 3
       first|refine' tj 10 rfl rfl (fun _ _ _ h=>h) ?_ zh ?_|refine' tj 11 rfl rfl (fun _ _ _ h=>h) ?_ zh ?_|refine' tj 12 rfl rfl (fun _ _ _ h=>h) ?_ zh ?_
       rotate_left
       · intro wS hS;obtain⟨k0,k1,k2⟩:=hS;go_simp;try rfl
       try simp only[Act.put,zA,zB,zC,zD,zE,zF]
      refine wpAnyH_ready (rs:=[13]) (by kernel_rfl) (by simp) ?_
      refine AllReadyH.cons rfl (fun K hK=>?_) AllReadyH.nil
      go_simp
      refine CA.out.mono ?_
      rintro ez wz ⟨rfl,hbz⟩
      have HBZ:Hid (Below wr.heap.size wr wz):=hid ((Below.refl wr.heap.size wr).drew.trans hbz)
      clear hbz
      go_wp2_with fail
      refine hK.out _ _ (KS.out _ HBZ.out) ?_
      clear hK K zh
      intro zh
      try simp only[Act.put,zA,zB,zC,zD,zE,zF]
      refine' tk 14 rfl (fun _ _ _ h=>h) ?pb14 zh ?_
      case pb14=>intro wS hS;obtain⟨k0,k1,k2⟩:=hS;go_simp;try rfl
      try simp only[Act.put,zA,zB,zC,zD,zE,zF]
      refine wpAnyH_done (by kernel_rfl) ?_ _
      clear zh
      try simp only[Act.put,zA,zB,zC,zD,zE,zF]
      have HBS:Hid (W.heap.size≤wz.heap.size):=hid (Nat.le_trans HB.out.size HBZ.out.size)
      have HQB:=hid (HQ.out wz (HB.out.trans (HBZ.out.mono HB.out.size)))
      go_upto_region 9 with(first
       |(refine Sh.wpList_load_at (T:=RnT) (cs:=n.cells.toArray) HQB.out rfl RnT (.tmp 3) rfl rfl _ Tryz.underlying86 rfl (infoRn1 n) ?_)
       |(refine wpList_oneH 11 (by decide) (by decide) rfl 87 RnT (.tmp 32) n.cells i0 _ rfl rfl Tryz.underlying87 hi0 hz0 hz1 rfl ?_
         intro yc wc hhc hgc hyc hsc
         have HHc:=hid hhc;have HGc:=hid hgc;have HYc:=hid hyc;have HSc:=hid hsc
         clear hhc hgc hyc hsc)
       |(refine wpList_appendN 11 (by decide) rfl _ _ 87 rfl W.heap.size RnT i0 _ 120 Tryz.underlying87 hi0 hz0 hz1 hz2 hz3 u4 L0.length (rcells L0) rfl (rowS_kept (rowS_kept HO.out (fun x _ hl=>HBZ.out.block x hl)) (fun x _ hl=>HGc.out.block x hl (fun h=>nomatch h))) _ 1 n.cells rfl HHc.out rfl nones.out (by have:=HLEN.out;unfold maxLen;omega) (by have:=HLEN.out;omega) (by have:=HBS.out;have:=HSc.out;omega) ?_
         intro vc_ xc hoc hgc hvc
         have HOc:=hid hoc;have HKc:=hid hgc;have HVc:=hid hvc
         clear hoc hgc hvc))
      have HOc2:Hid (xc.ownsRow W.heap.size RnT 11 vc_ (L0++[n]).length (rcells (L0++[n]))):=hid (by rw[←rcells_one,List.length_append];exact HOc.out)
      have HBC:Hid (Below W.heap.size W xc):=hid (((HB.out.trans (HBZ.out.mono HB.out.size)).grown HGc.out (Nat.le_trans HB.out.size HBZ.out.size) (fun k hk=>nomatch hk)).grown HKc.out (Nat.le_trans (Nat.le_trans HB.out.size HBZ.out.size) HGc.out.size) (fun x hx=>rowS_ge HO.out x (by simp[ob,hx])))
      have HXC:=hid (H0.out.below HBC.out)
      have czd:xc.cell? ⟨r,0,none⟩=some (.slice (some ⟨gv,0,none⟩) R.length vc):=cell_of_heap HXC.out.book
      have HENTd:=hid (HXC.out.ent HYI.out)
      have HBS:Hid (W.heap.size≤xc.heap.size):=hid HBC.out.size
      have hnl2:(L0++[n]).length≤R.length+1:=by have h1:=HNL.out (i+1);rw[HL1.out,List.length_append] at h1;omega
      go_wp2_with (first
       |(refine wpList_load_mid rfl _ _ rfl gv (i*11) rfl y.cells _ HENTd.out Tryz.underlying86 rfl (infoRn1 y) ?_)
       |(refine wpList_oneH 11 (by decide) (by decide) rfl 87 RnT (.tmp 42) y.cells i0 _ rfl rfl Tryz.underlying87 hi0 hz0 hz1 rfl ?_
         intro yd wd hhd hgd hyd hsd
         have HHd:=hid hhd;have HGd:=hid hgd;have HYd:=hid hyd;have HSd:=hid hsd
         clear hhd hgd hyd hsd)
       |(refine wpList_appendN 11 (by decide) rfl _ _ 87 rfl W.heap.size RnT i0 _ 120 Tryz.underlying87 hi0 hz0 hz1 hz2 hz3 vc_ (L0++[n]).length (rcells (L0++[n])) rfl (rowS_kept HOc2.out (fun x _ hl=>HGd.out.block x hl (fun h=>nomatch h))) _ 1 y.cells rfl HHd.out rfl yones.out (by have:=HLEN.out;unfold maxLen;omega) (by have:=HLEN.out;omega) (by have:=HBS.out;have:=HSd.out;omega) ?_
         intro vd xd hod hgd hvd
         have HOd:=hid hod;have HKd:=hid hgd;have HVd:=hid hvd
         clear hod hgd hvd))
      go_roundw
      case rel=>
       refine⟨i+1,by omega,by go_num,by rw[HD1.out],hid ?_,hid ?_⟩
       · rw[HL1.out,←rcells_one,List.length_append];exact HOd.out
       · exact(HBC.out.grown HGd.out HBC.out.size (fun k hk=>nomatch hk)).grown HKd.out (Nat.le_trans HBC.out.size HGd.out.size) (fun x hx=>rowS_ge HOc2.out x (by simp[ob,hx]))
      case measure=>simp [RowKit.intOf];omega
  · obtain rfl:i=R.length:=by omega
    have HO2:=HO
    rw[List.take_length] at HO2
    have f0:wr.frozen? ⟨r,0,none⟩=false:=frozen_of_heap HX.out.book
    have hone:u4.oneCell'=true:=by obtain⟨a,c,h⟩:=rowS_slice HO2.out;rw[h];rfl
    cases hd:putD n R with
    |true=>
     have hd2:putD n (R.take R.length)=true:=by rw[List.take_length];exact hd
     have HL1:Hid (putL n R=insR n R):=hid (putL_end.1 hd)
     rw[HL1.out] at HO2
     clear hd
     obtain⟨oa,oc,rfl⟩:=rowS_slice HO2.out
     rw[hd2]
     clear hd2
     go_wp2
     exact bodyPost_end (results_none rfl _ _ _) rfl (FIN.out wr _ HB.out HO2.out)
    |false=>
     have hd2:putD n (R.take R.length)=false:=by rw[List.take_length];exact hd
     have HL1:Hid (putL n R++[n]=insR n R):=hid (putL_end.2 hd)
     have HQB:=hid (HQ.out wr HB.out)
     rw[List.take_length] at hnl
     clear hd HO
     rw[hd2]
     clear hd2
     generalize putL n R=L0 at*
     go_upto_region 12 with(first
      |(refine Sh.wpList_load_at (T:=RnT) (cs:=n.cells.toArray) HQB.out rfl RnT (.tmp 3) rfl rfl _ Tryz.underlying86 rfl (infoRn1 n) ?_)
      |(refine wpList_oneH 11 (by decide) (by decide) rfl 87 RnT (.tmp 48) n.cells i0 _ rfl rfl Tryz.underlying87 hi0 hz0 hz1 rfl ?_
        intro yc wc hhc hgc hyc hsc
        have HHc:=hid hhc;have HGc:=hid hgc;have HYc:=hid hyc;have HSc:=hid hsc
        clear hhc hgc hyc hsc)
      |(refine wpList_appendN 11 (by decide) rfl _ _ 87 rfl W.heap.size RnT i0 _ 120 Tryz.underlying87 hi0 hz0 hz1 hz2 hz3 u4 L0.length (rcells L0) rfl (rowS_kept HO2.out (fun x _ hl=>HGc.out.block x hl (fun h=>nomatch h))) _ 1 n.cells rfl HHc.out rfl nones.out (by have:=HLEN.out;unfold maxLen;omega) (by have:=HLEN.out;omega) (by have:=HBS.out;have:=HSc.out;omega) ?_
        intro vc_ xc hoc hgc hvc
        have HOc:=hid hoc;have HKc:=hid hgc;have HVc:=hid hvc
        clear hoc hgc hvc))
     have HOc2:Hid (xc.ownsRow W.heap.size RnT 11 vc_ (insR n R).length (rcells (insR n R))):=hid (by rw[←HL1.out,←rcells_one,List.length_append];exact HOc.out)
     have HBC:Hid (Below W.heap.size W xc):=hid ((HB.out.grown HGc.out HB.out.size (fun k hk=>nomatch hk)).grown HKc.out (Nat.le_trans HB.out.size HGc.out.size) (fun x hx=>rowS_ge HO2.out x (by simp[ob,hx])))
     have HXC:=hid (H0.out.below HBC.out)
     have czd:xc.cell? ⟨r,0,none⟩=some (.slice va R.length vc):=cell_of_heap HXC.out.book
     have fzd:xc.frozen? ⟨r,0,none⟩=false:=frozen_of_heap HXC.out.book
     obtain⟨oa,oc,rfl⟩:=rowS_slice HOc2.out
     go_wp2
     exact bodyPost_end (results_none rfl _ _ _) rfl (FIN.out xc _ HBC.out HOc2.out)
section
variable {B:Nat} {w w':World} {r:Nat} {v:Value} {R:List RN} {F:Tr}
theorem RTree.head (h:RTree B w r v R F) {c m q:Nat} (hq:w'.heap[r]? =some (.cells #[v,.int .i64 (c:Int),.int .u64 (m:Int),.int .i64 (q:Int)] RtT)) (hk:∀ b,b≠r→w'.heap[b]? =w.heap[b]?) (hs:w.heap.size≤w'.heap.size):
 RTree B w' r v R {F with clock:=c,most:=m,reads:=q}:=by
 refine⟨hq,rowS_kept h.row (fun b hb _=>hk b (h.off b hb)),h.off,h.base,fun n hn=>⟨?_,?_⟩,h.apart,h.is⟩
 · exact(h.node n hn).1.kept (fun b hb=>hk b (h.apart b (robL_mem hn (List.mem_append_left _ hb))).2.1)
 · exact(h.node n hn).2.kept hs (fun b hb=>hk b (h.apart b (robL_mem hn (List.mem_append_right _ hb))).2.1)
theorem RTree.clocked (h:RTree B w r v R F) (c:Nat):RTree B (w.setCell ⟨r,1,none⟩ (.int .i64 (c:Int))) r v R {F with clock:=c}:=
 h.head (c:=c) (m:=F.most) (q:=F.reads) (by rw[setCell_heap _ _ _ _ _ _ h.book];rfl) (fun _ hb=>Below.heap_setCell _ _ _ _ hb) (by rw[World.size_setCell];exact Nat.le_refl _)
theorem RTree.mosted (h:RTree B w r v R F) (m:Nat):RTree B (w.setCell ⟨r,2,none⟩ (.int .u64 (m:Int))) r v R {F with most:=m}:=
 h.head (c:=F.clock) (m:=m) (q:=F.reads) (by rw[setCell_heap _ _ _ _ _ _ h.book];rfl) (fun _ hb=>Below.heap_setCell _ _ _ _ hb) (by rw[World.size_setCell];exact Nat.le_refl _)
theorem RTree.readed (h:RTree B w r v R F) (q:Nat):RTree B (w.setCell ⟨r,3,none⟩ (.int .i64 (q:Int))) r v R {F with reads:=q}:=
 h.head (c:=F.clock) (m:=F.most) (q:=q) (by rw[setCell_heap _ _ _ _ _ _ h.book];rfl) (fun _ hb=>Below.heap_setCell _ _ _ _ hb) (by rw[World.size_setCell];exact Nat.le_refl _)
theorem rcells_set {n n':RN} {j:Nat} {u:Value} (hc:n'.cells=n.cells.set j u) (hj:j < 11):∀ {R:List RN} {i:Nat},R[i]? =some n→(rcells R).set (i*11+j) u=rcells (R.set i n')
 |[],i,h=>by cases h
 |y::t,0,h=>by
  obtain rfl:=Option.some.inj h
  rw[rcells,List.flatMap_cons,List.set_append,if_pos (by rw[rn_len];omega),Nat.zero_mul,Nat.zero_add,←hc];rfl
 |y::t,i+1,h=>by
  have ih:=rcells_set hc hj (R:=t) (i:=i) h
  rw[rcells,List.flatMap_cons,List.set_append,if_neg (by rw[rn_len];omega),rn_len,show (i+1)*11+j - 11=i*11+j by omega,←rcells,ih];rfl
theorem row_cell {B:Nat} {w:World} {g n cap:Nat} {T:TypeId} {s:Nat} {xs:List Value} (h:w.ownsRow B T s (.slice (some ⟨g,0,none⟩) n cap) n xs) {k:Nat} (hk:k < n*s) (u:Value):
 (w.setCell ⟨g,k,none⟩ u).ownsRow B T s (.slice (some ⟨g,0,none⟩) n cap) n (xs.set k u)∧w.frozen? ⟨g,k,none⟩=false∧∃ x,w.cell? ⟨g,k,none⟩=some x:=by
 obtain⟨h1,⟨hc,_⟩|⟨g',cap',cur,hv,a1,a2,a3,a4,a5,a6⟩⟩:=h
 · cases hc
 · injection hv with e1 e2 e3
   injection e1 with e1
   injection e1 with e1
   subst e1 e3
   refine⟨⟨by rw[List.length_set];exact h1,.inr ⟨g,cap,cur.setIfInBounds k u,rfl,a1,setCell_heap _ _ _ _ _ _ a2,a3,a4,by rw[Array.size_setIfInBounds];exact a5,?_⟩⟩,frozen_of_heap a2,?_⟩
   · rw[Array.toList_setIfInBounds,List.take_set,a6]
   · have hs:k < cur.size:=by rw[a5];exact Nat.lt_of_lt_of_le hk (Nat.mul_le_mul_right _ a3)
     exact⟨cur[k],by rw[cell_of_heap a2];exact Array.getElem?_eq_getElem hs⟩
theorem RTree.setNode {g cap i:Nat} {n:RN} (h:RTree B w r (.slice (some ⟨g,0,none⟩) R.length cap) R F) (hn:R[i]? =some n) (n':RN) (ho:w'.ownsRow B RnT 11 (.slice (some ⟨g,0,none⟩) R.length cap) R.length (rcells (R.set i n'))) (hk:∀ b,b≠g→w'.heap[b]? =w.heap[b]?) (hs:w.heap.size≤w'.heap.size)
 (hnm:n'.nm=n.nm∧n'.nv=n.nv) (hx:XsAt w' n'.xv n'.at_.xs) (hxa:∀ b∈xob n'.at_.xs n'.xv,B≤b∧b≠r∧b≠g):RTree B w' r (.slice (some ⟨g,0,none⟩) R.length cap) (R.set i n') {F with L:=F.L.set i n'.te}:=by
 have hog:∀ b,b∈ob (.slice (some ⟨g,0,none⟩) R.length cap) ↔ b=g:=fun b=>by simp[ob,Value.ownBlock,eq_comm]
 have hgr:g≠r:=h.off g ((hog g).2 rfl)
 have hnn:=List.mem_of_getElem? hn
 have hrow:∀ b∈robL R,w'.heap[b]? =w.heap[b]? :=fun b hb=>hk b (fun e=>(h.apart b hb).2.2 ((hog b).2 e))
 refine⟨(hk r (Ne.symm hgr)).trans h.book,by rw[List.length_set];exact ho,h.off,h.base,fun m hm=>?_,fun b hb=>?_,by rw[h.is,List.map_set]⟩
 · rcases List.mem_or_eq_of_mem_set hm with hm|rfl
   · exact⟨(h.node m hm).1.kept (fun b hb=>hrow b (robL_mem hm (List.mem_append_left _ hb))),(h.node m hm).2.kept hs (fun b hb=>hrow b (robL_mem hm (List.mem_append_right _ hb)))⟩
   · refine⟨?_,hx⟩
     rw[hnm.1,hnm.2]
     exact(h.node n hnn).1.kept (fun b hb=>hrow b (robL_mem hnn (List.mem_append_left _ hb)))
 · obtain⟨m,hm,hb2⟩:=List.mem_flatMap.1 hb
   clear hb
   rcases List.mem_or_eq_of_mem_set hm with hm|rfl
   · exact h.apart b (robL_mem hm hb2)
   · rcases List.mem_append.1 hb2 with hb|hb
     · rw[hnm.2] at hb;exact h.apart b (robL_mem hnn (List.mem_append_left _ hb))
     · exact⟨(hxa b hb).1,(hxa b hb).2.1,fun e=>(hxa b hb).2.2 ((hog b).1 e)⟩
theorem set_mem_rob {i:Nat} {n n':RN} {b:Nat} (hn:R[i]? =some n) (hnv:n'.nv=n.nv) (h:b∈robL (R.set i n')):b∈robL R∨b∈xob n'.at_.xs n'.xv:=by
 obtain⟨m,hm,hb⟩:=List.mem_flatMap.1 h
 clear h
 rcases List.mem_or_eq_of_mem_set hm with hm|rfl
 · exact .inl (robL_mem hm hb)
 · rcases List.mem_append.1 hb with hb|hb
   · rw[hnv] at hb;exact .inl (robL_mem (List.mem_of_getElem? hn) (List.mem_append_left _ hb))
   · exact .inr hb
theorem RTree.ticked {g cap i:Nat} {n:RN} (h:RTree B w r (.slice (some ⟨g,0,none⟩) R.length cap) R F) (hn:R[i]? =some n) (c:Int):
 RTree B (w.setCell ⟨g,i*11+10,none⟩ (.int .i64 c)) r (.slice (some ⟨g,0,none⟩) R.length cap) (R.set i {n with tick:=c}) {F with L:=F.L.set i {n.te with tick:=c}}∧w.frozen? ⟨g,i*11+10,none⟩=false∧(∃ x,w.cell? ⟨g,i*11+10,none⟩=some x)∧robL (R.set i {n with tick:=c})=robL R:=by
 have hi:=(List.getElem?_eq_some_iff.1 hn).1
 obtain⟨h1,h2,h3⟩:=row_cell h.row (k:=i*11+10) (by omega) (.int .i64 c)
 rw[rcells_set (n':={n with tick:=c}) rfl (by omega) hn] at h1
 have hnn:=List.mem_of_getElem? hn
 have hg:∀ b,b≠g→(w.setCell ⟨g,i*11+10,none⟩ (.int .i64 c)).heap[b]? =w.heap[b]? :=fun b hb=>Below.heap_setCell _ _ _ _ hb
 have hap:∀ b∈xob n.at_.xs n.xv,B≤b∧b≠r∧b≠g:=fun b hb=>by
  have:=h.apart b (robL_mem hnn (List.mem_append_right _ hb))
  exact⟨this.1,this.2.1,fun e=>this.2.2 (by rw[e];simp[ob,Value.ownBlock])⟩
 refine⟨?_,h2,h3,?_⟩
 · exact h.setNode hn {n with tick:=c} h1 hg (by rw[World.size_setCell];exact Nat.le_refl _) ⟨rfl,rfl⟩ ((h.node n hnn).2.kept (by rw[World.size_setCell];exact Nat.le_refl _) (fun b hb=>hg b (hap b hb).2.2)) hap
 · rw[robL,robL]
   obtain⟨hlt,he⟩:=List.getElem?_eq_some_iff.1 hn
   rw[List.set_eq_take_append_cons_drop,if_pos hlt]
   conv=>rhs;rw[←List.take_append_drop i R,List.drop_eq_getElem_cons hlt,he]
   simp[List.flatMap_append,List.flatMap_cons,robN]
theorem RTree.dataed {g cap i:Nat} {n:RN} (h:RTree B w r (.slice (some ⟨g,0,none⟩) R.length cap) R F) (hn:R[i]? =some n) (d:List UInt8):
 RTree B (w.setCell ⟨g,i*11+8,none⟩ (.string ⟨d.toArray⟩)) r (.slice (some ⟨g,0,none⟩) R.length cap) (R.set i {n with data:=d}) {F with L:=F.L.set i {n.te with data:=d}}∧w.frozen? ⟨g,i*11+8,none⟩=false∧(∃ x,w.cell? ⟨g,i*11+8,none⟩=some x)∧robL (R.set i {n with data:=d})=robL R:=by
 have hi:=(List.getElem?_eq_some_iff.1 hn).1
 obtain⟨h1,h2,h3⟩:=row_cell h.row (k:=i*11+8) (by omega) (.string ⟨d.toArray⟩)
 rw[rcells_set (n':={n with data:=d}) rfl (by omega) hn] at h1
 have hnn:=List.mem_of_getElem? hn
 have hg:∀ b,b≠g→(w.setCell ⟨g,i*11+8,none⟩ (.string ⟨d.toArray⟩)).heap[b]? =w.heap[b]? :=fun b hb=>Below.heap_setCell _ _ _ _ hb
 have hap:∀ b∈xob n.at_.xs n.xv,B≤b∧b≠r∧b≠g:=fun b hb=>by
  have:=h.apart b (robL_mem hnn (List.mem_append_right _ hb))
  exact⟨this.1,this.2.1,fun e=>this.2.2 (by rw[e];simp[ob,Value.ownBlock])⟩
 refine⟨?_,h2,h3,?_⟩
 · exact h.setNode hn {n with data:=d} h1 hg (by rw[World.size_setCell];exact Nat.le_refl _) ⟨rfl,rfl⟩ ((h.node n hnn).2.kept (by rw[World.size_setCell];exact Nat.le_refl _) (fun b hb=>hg b (hap b hb).2.2)) hap
 · rw[robL,robL]
   obtain⟨hlt,he⟩:=List.getElem?_eq_some_iff.1 hn
   rw[List.set_eq_take_append_cons_drop,if_pos hlt]
   conv=>rhs;rw[←List.take_append_drop i R,List.drop_eq_getElem_cons hlt,he]
   simp[List.flatMap_append,List.flatMap_cons,robN]
end
section
variable {L:List TE}
theorem set_map (hs:SrtT L) {i:Nat} {e e':TE} (he:L[i]? =some e) (f:TE→TE) (hf:f e=e') (hid:∀ x∈L,x.nm≠e.nm→f x=x):L.set i e'=L.map f:=by
 obtain⟨hi,rfl⟩:=List.getElem?_eq_some_iff.1 he
 refine List.ext_getElem? (fun j=>?_)
 rw[List.getElem?_set,List.getElem?_map]
 by_cases hj:i=j
 · subst hj;rw[if_pos rfl,if_pos hi,List.getElem?_eq_getElem hi,Option.map_some,hf]
 · rw[if_neg hj]
   by_cases hjl:j < L.length
   · rw[List.getElem?_eq_getElem hjl,Option.map_some,hid _ (List.getElem_mem hjl)]
     intro hn
     rcases Nat.lt_or_gt_of_ne hj with hlt|hgt
     · exact ahd_ne (List.pairwise_iff_getElem.1 hs i j hi hjl hlt) hn.symm
     · exact ahd_ne (List.pairwise_iff_getElem.1 hs j i hjl hi hgt) hn
   · rw[List.getElem?_eq_none (by omega)];rfl
theorem set_tick (hs:SrtT L) {i:Nat} {e:TE} (he:L[i]? =some e) (c:Int):L.set i {e with tick:=c}=tickN [e.nm] c L:=
 set_map hs he _ (by simp) (fun x _ hx=>by simp[hx])
theorem set_upd (hs:SrtT L) {i:Nat} {e e':TE} (he:L[i]? =some e) (hn:e'.nm=e.nm):L.set i e'=updN e' L:=
 set_map hs he _ (by rw[if_pos hn.symm]) (fun x _ hx=>by rw[if_neg (by rw[hn];exact hx)])
theorem tickN_two (a b:PN) (c:Int) (L:List TE):tickN [a,b] c L=tickN [b] c (tickN [a] c L):=by
 rw[tickN,tickN,tickN,List.map_map]
 refine List.map_congr_left (fun x _=>?_)
 show(if x.nm∈[a,b] then({x with tick:=c}:TE) else x)=(if (if x.nm∈[a] then({x with tick:=c}:TE) else x).nm∈[b] then({(if x.nm∈[a] then({x with tick:=c}:TE) else x) with tick:=c}:TE) else(if x.nm∈[a] then({x with tick:=c}:TE) else x))
 by_cases h1:x.nm=a
 · rw[if_pos (by simp[h1]),if_pos (show x.nm∈[a] by simp[h1])]
   split <;> rfl
 · rw[if_neg (show ¬ x.nm∈[a] by simp[h1])]
   by_cases h2:x.nm=b
   · rw[if_pos (by simp[h2]),if_pos (by simp[h2])]
   · rw[if_neg (by simp[h1,h2]),if_neg (by simp[h2])]
theorem tickN_ins {e:TE} {c:Int}:∀ {L:List TE},(∀ x∈L,x.nm≠e.nm)→tickN [e.nm] c (insT e L)=insT {e with tick:=c} L
 |[],_=>by simp[insT,tickN]
 |y::r,h=>by
  have hr:tickN [e.nm] c r=r:=by
   rw[tickN]
   conv=>rhs;rw[←List.map_id r]
   exact List.map_congr_left (fun x hx=>by simp[h x (List.mem_cons_of_mem _ hx)])
  have hy:y.nm≠e.nm:=h y (by simp)
  rw[insT,insT]
  by_cases ha:ahd e.nm y.nm=true
  · rw[if_pos ha,if_pos ha]
    rw[tickN,List.map_cons,List.map_cons,←tickN,hr]
    simp[hy]
  · rw[if_neg ha,if_neg ha,tickN,List.map_cons,←tickN,tickN_ins (fun x hx=>h x (List.mem_cons_of_mem _ hx))]
    simp[hy]
end
def RReadP (B:Nat) (w:World) (r:Nat) (v:Value) (R:List RN) (F:Tr) (p:List UInt8) (e:Ending) (w':World):Prop:=
 e= .returned (.tuple #[.string ⟨(readD p F.L).toArray⟩,.int .i64 (readE p F.L)])∧RTree B w' r v R (if readE p F.L=0 then {F with reads:=F.reads+1} else F)∧Turn [r] w w'
theorem rread_any (B:Nat) (w:World) (r:Nat) (v:Value) (R:List RN) (F:Tr) (k:Nat) (p:List UInt8) (hT:Tabs w) (hp:p.length≤4611686018427387904) (hg:GoodF k F) (hk:k≤1000) (hrd:F.reads≤1000000) (h:RTree B w r v R F):
 Calls Tryz.prog 53 #[ptr r,.string ⟨p.toArray⟩] w (RReadP B w r v R F p):=by
 have hlen:R.length≤1000000:=by rw[h.len];have:=hg.len;omega
 have FI:=rfind_any B w r v R F p hT hp hg.srt hlen h
 have H:=hid h;have HG:=hid hg
 have NO:Hid (∀ (w1:World) (c:Int),Below w.heap.size w w1→readE p F.L=c→c≠0→RReadP B w r v R F p (.returned (.tuple #[.string ⟨#[]⟩,.int .i64 c])) w1):=hid (fun w1 c hb he hn=>by
  refine⟨by rw[readD,he,if_neg hn],?_,Turn.of_below hb⟩
  rw[he,if_neg hn];exact H.out.below hb)
 obtain⟨va,vc,rfl⟩:=rowS_slice h.row
 have hfe0:findE p F.L=if splitE p=0 then(if (getT (splitL p) F.L).isSome then 0 else 6) else 10:=rfl
 clear h hT hg
 unfold ptr at*
 by_cases hf:findE p F.L=0
 case neg=>
  have HC:Hid (readE p F.L=findE p F.L):=hid (by
   rw[readE,hfe0]
   by_cases h0:splitE p=0
   · rw[if_neg (by rw[h0];decide),if_pos h0]
     rw[hfe0,if_pos h0] at hf
     cases hgt:getT (splitL p) F.L with
     |none=>rfl
     |some n=>rw [hgt] at hf;exact absurd rfl hf
   · rw[if_pos h0,if_neg h0])
  rw[rfind_no hf] at FI
  have FI:=hid FI
  have HN:=hid hf
  obtain⟨c,hc⟩:∃ c,c=findE p F.L:=⟨_,rfl⟩
  have HCF:=hid hc
  rw[←hc] at FI hf
  have hb:(c==0)=false:=by rw[beq_eq_false_iff_ne];exact hf
  have hb2:(c !=0)=true:=by rw[bne,hb];rfl
  clear hf hc hfe0
  go_enter Tryz.func53,Tryz.ntmps53
  go_wp2_with fail
  refine FI.out.mono ?_
  rintro ex w1 ⟨rfl,hb1⟩
  have HB:=hid hb1
  clear FI hb1
  go_wp2
  go_ret2
  exact NO.out _ _ HB.out (by rw[HC.out,HCF.out]) (by rw[HCF.out];exact HN.out)
 obtain⟨i,e,hfi,hi,hen,hg',hs0⟩:=rfind_yes HG.out.srt hf
 obtain⟨n,hn,hne⟩:=H.out.get hi
 have hil:i < R.length:=(List.getElem?_eq_some_iff.1 hn).1
 have hilt:(i:Int) < (R.length:Int):=by omega
 have HWD:Hid (readE p F.L=if n.at_.node≠1 then 11 else 0):=hid (by rw[readE,if_neg (by rw[hs0];decide),hg',←hne];rfl)
 have HGE:=hid hg';have HNE:=hid hne
 rw[hfi,hf] at FI
 have FI:=hid FI
 have HN:=hid hn
 obtain⟨gv,cap,hv,hgv⟩:=H.out.form (by omega)
 injection hv with e1 e2 e3
 subst e1 e3
 have KS:Hid (∀ w2,Below w.heap.size w w2→w2.cell? ⟨r,0,none⟩=some (.slice (some ⟨gv,0,none⟩) R.length vc)∧w2.cell? ⟨r,3,none⟩=some (.int .i64 (F.reads:Int))∧w2.frozen? ⟨r,3,none⟩=false∧w2.cell? ⟨gv,i*11+1,none⟩=some (.int .u8 (n.at_.node:Int))∧w2.cell? ⟨gv,i*11+8,none⟩=some (.string ⟨n.data.toArray⟩)):=hid (fun w2 hb=>by
  have HX:=H.out.below hb
  exact⟨cell_of_heap HX.book,cell_of_heap HX.book,frozen_of_heap HX.book,HX.ent HN.out 1 _ rfl,HX.ent HN.out 8 _ rfl⟩)
 have hgr:gv≠r:=H.out.off gv (by simp[ob,Value.ownBlock])
 clear hf hfi hi hen hg' hs0 hn hne e2 hfe0
 go_enter Tryz.func53,Tryz.ntmps53
 go_wp2_with fail
 refine FI.out.mono ?_
 rintro ex w2 ⟨rfl,hb2⟩
 have HB2:=hid hb2
 clear hb2 FI
 obtain⟨c0,c3,f3,cn,cd⟩:=KS.out w2 HB2.out
 by_cases hno:n.at_.node=1
 case neg=>
  have HC:=hid (show readE p F.L=11 by rw[HWD.out,if_pos hno])
  have q1:((n.at_.node:Int)==1)=false:=by rw[beq_eq_false_iff_ne];omega
  have q2:((n.at_.node:Int) !=1)=true:=by rw[bne_iff_ne];omega
  clear hno
  go_wp2
  go_ret2
  exact NO.out _ _ HB2.out HC.out (by decide)
 have HC:=hid (show readE p F.L=0 by rw[HWD.out,if_neg (by rw[hno];decide)])
 have q1:((n.at_.node:Int)==1)=true:=by rw[hno];rfl
 have q2:((n.at_.node:Int) !=1)=false:=by rw[hno];rfl
 have c0b:(w2.setCell ⟨r,3,none⟩ (.int .i64 ((F.reads:Int)+1))).cell? ⟨r,0,none⟩=some (.slice (some ⟨gv,0,none⟩) R.length vc):=cell_of_heap (setCell_heap _ _ _ _ _ _ (H.out.below HB2.out).book)
 have cdb:(w2.setCell ⟨r,3,none⟩ (.int .i64 ((F.reads:Int)+1))).cell? ⟨gv,i*11+8,none⟩=some (.string ⟨n.data.toArray⟩):=(World.cell?_of_block (a:=⟨gv,i*11+8,none⟩) (Below.heap_setCell _ _ _ _ hgr)).trans cd
 clear hno
 go_wp2
 go_ret2
 refine⟨?_,?_,?_⟩
 · rw[readD,HC.out,if_pos rfl,HGE.out,←HNE.out];rfl
 · rw[HC.out,if_pos rfl]
   exact(H.out.below HB2.out).readed (F.reads+1)
 · exact(Turn.of_below HB2.out).setCell (.inl (by simp)) _
end Go.Proofs.YtnmejonfdfdegaaGreatDoor.Sr
