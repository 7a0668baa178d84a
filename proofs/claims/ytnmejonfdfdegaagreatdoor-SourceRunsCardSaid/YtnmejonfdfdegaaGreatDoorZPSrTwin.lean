import Derived.Test.YtnmejonfdfdegaaGreatDoorZPZz
import Derived.Test.YtnmejonfdfdegaaGreatDoorZPSrHapp
import Derived.Test.YtnmejonfdfdegaaGreatDoorZPSrAlike
import Derived.Test.YtnmejonfdfdegaaGreatDoorZPSrAdd
import Derived.Test.YtnmejonfdfdegaaGreatDoorZPRowKit
import Derived.Test.YtnmejonfdfdegaaGreatDoorProg
import Derived.WalkKit
import Derived.Test.YtnmejonfdfdegaaGreatDoorZPSrXattr
import Derived.Test.YtnmejonfdfdegaaGreatDoorZPSrNew
import Derived.Test.YtnmejonfdfdegaaGreatDoorZPSrIn18
set_option linter.unusedSimpArgs false
set_option linter.unusedVariables false
set_option maxHeartbeats 16000000
set_option maxRecDepth 100000
namespace Go.Proofs.YtnmejonfdfdegaaGreatDoor.Sr
open Go.RowKit Go.Maps Go.WideMaps Rf Go.Proofs.YtnmejonfdfdegaaGreatDoor.Nm St
open Lib (hid)
theorem map_nil_ne (W:World):(binOp .neq 80 (.map none) (.map none)).run Tryz.prog W= .ok (.bool false) W:=by kernel_rfl
theorem map_some_ne (b:Nat) (W:World):(binOp .neq 80 (.map (some b)) (.map none)).run Tryz.prog W= .ok (.bool true) W:=by kernel_rfl
def TwinOk (B r:Nat) (T:Tr) (e:TE):Prop:=∀ w,TreeAt B w r T→Calls Tryz.prog 44 #[ptr e.p] w fun z w'=>∃ p C,z= .returned (ptr p)∧TwF w.heap.size w' T e.nm p C∧Below w.heap.size w w'
theorem twin_step (B r:Nat) (T:Tr) (hF:Fine T) (e:TE) (he:e∈T.L) (ih:∀ x∈T.L,∀ s,x.nm=e.nm++[s]→TwinOk B r T x):TwinOk B r T e:=by
 intro w h
 have mixed:Tryz.prog.follows Departure.mixedOrders=true:=by kernel_rfl
 have H:=hid h;have HE:=hid he;have IH:=hid ih;have HFI:=hid hF
 have hq0:=(h.node e he).cells
 have HR0:Hid (w.rangeAt e.p 0 e.cells):=hid (range_block hq0)
 have HI:Hid ((Tryz.prog.info? NdT).map (·.size)=some e.cells.toArray.size):=hid (by show _=some 11;kernel_rfl)
 have hov:e.xv.oneCell'=true:=xs_one (h.node e he).xs
 have HON:Hid (e.cells.toArray.all (·.oneCell')=true):=hid (by
  simp only[TE.cells,XA.cells,mapV]
  simp[Value.oneCell'] at hov ⊢
  first|exact hov|trivial)
 clear h he ih hF hq0 hov
 unfold ptr at*
 go_enter Tryz.func44,Tryz.ntmps44
 go_wp2_with (first
  |(refine wpList_load_mid rfl _ _ rfl e.p 0 rfl e.cells _ HR0.out Tryz.underlying82 rfl HI.out ?_)
  |(refine wpList_store_new rfl rfl NdT (.tmp 3) (.tmp 8) rfl e.cells.toArray rfl rfl HI.out rfl HON.out ?_
    intro w2 hq2 hb2 hs2
    have HQ2:=hid hq2;have HB2:=hid hb2
    have HL2:Hid (w.heap.size < w2.heap.size):=hid (lt_of_heap hq2)
    have HAR:Hid (w2.rangeAt e.p 2 (e.at_.cells e.xv)):=hid (fun j u hj=>by
     have hc:=((H.out.below hb2).node e HE.out).cells
     rw[cell_of_heap hc]
     have hjl:=(List.getElem?_eq_some_iff.1 hj).1
     rw[List.getElem?_toArray,Nat.add_comm 2 j,TE.cells,List.getElem?_cons_succ,List.getElem?_cons_succ,List.getElem?_append_left hjl]
     exact hj)
    have OW:=hid (own_any w2 e.at_ e.xv ((H.out.below hb2).node e HE.out).xs (HFI.out.xs e HE.out))
    clear hq2 hb2 hs2)
  |(refine wpList_load_mid rfl _ _ rfl e.p 2 rfl (e.at_.cells e.xv) _ HAR.out Tryz.underlying79 rfl (infoAt _ _) ?_)
  |fail)
 refine OW.out.mono ?_
 rintro ex w4 ⟨v4,rfl,hx4,hf4,hb4⟩
 have HB4:Hid (Below w.heap.size w w4):=hid (HB2.out.trans (hb4.mono HB2.out.size))
 have HX4:=hid hx4
 have HF4:Hid (∀ b∈xob e.at_.xs v4,w.heap.size≤b∧b < w4.heap.size∧b≠w.heap.size):=hid (fun b hb=>by have h1:=hf4 b hb;have h2:=hx4.lt b hb;have:=HL2.out;omega)
 have hov:v4.oneCell'=true:=xs_one hx4
 have HON4:Hid (((e.at_.cells v4).toArray).all (·.oneCell')=true):=hid (atOne _ hov)
 have hq4:w4.heap[w.heap.size]? =some (.cells e.cells.toArray NdT):=(hb4.block _ HL2.out).trans HQ2.out
 have HTH:Hid (w4.there w.heap.size 2 7):=hid (fun i hi=>⟨by
  show(w4.cell? ⟨w.heap.size,2+i,none⟩).isSome=true
  obtain⟨u,hu⟩:∃ u,e.cells.toArray[2+i]? =some u:=⟨_,Array.getElem?_eq_getElem (by show 2+i < 11;omega)⟩
  rw[show w4.cell? ⟨w.heap.size,2+i,none⟩=some u from(cell_of_heap hq4).trans hu];rfl,frozen_of_heap hq4⟩)
 have hnew:∃ cur',(w4.setCells w.heap.size 2 (e.at_.cells v4)).heap[w.heap.size]? =some (.cells cur' NdT)∧cur'.size=e.cells.toArray.size∧cur'.toList=e.cells.toArray.toList.take 2++e.at_.cells v4++e.cells.toArray.toList.drop (2+(e.at_.cells v4).length):=heap_setCells _ 2 w4 _ hq4 (by show 2+7≤11;omega)
 obtain⟨W5,hW5⟩:∃ W5,W5=w4.setCells w.heap.size 2 (e.at_.cells v4):=⟨_,rfl⟩
 have HT4:Hid (Turn [w.heap.size] w4 W5):=hid (by rw[hW5];exact turn_setCells _ _ _ _)
 rw[←hW5] at hnew
 have HQ5:Hid (W5.heap[w.heap.size]? =some (.cells (TE.cells {e with p:=w.heap.size,xv:=v4}).toArray NdT)):=hid (by
  obtain⟨cur',h1,_,h3⟩:=hnew
  rw[h1]
  have:cur'=(TE.cells {e with p:=w.heap.size,xv:=v4}).toArray:=by
   apply Array.ext'
   rw[h3]
   simp[TE.cells,XA.cells]
  rw[this])
 have HB5:Hid (Below w.heap.size w W5):=hid (HB4.out.trans (HT4.out.below (fun x hx=>by obtain rfl:=List.mem_singleton.1 hx;exact Nat.le_refl _) HB4.out.size))
 have HX5:Hid (XsAt W5 v4 e.at_.xs):=hid (HX4.out.kept HT4.out.size (fun b hb=>HT4.out.block b (HX4.out.lt b hb) (by have:=HF4.out b hb;simp;omega)))
 have HS5:Hid (w4.heap.size≤W5.heap.size∧w.heap.size < W5.heap.size):=hid ⟨HT4.out.size,by have h1:=lt_of_heap HQ5.out;exact h1⟩
 have HW5:=hid hW5
 have c10:W5.cell? ⟨e.p,10,none⟩=some (mapV e.m):=cell_of_heap ((H.out.below HB5.out).node e HE.out).cells
 clear hx4 hf4 hb4 hq4 hnew OW hW5 hov HQ2 HAR HR0
 cases hm:e.m with
 |none=>
  rw[hm] at c10
  unfold mapV at c10
  have HM:=hid hm
  clear hm
  have hne:=map_nil_ne W5
  have hrn:=run_range_nilMap (P:=Tryz.prog) W5 80 _ _ Tryz.underlying80
  have hnx:=fun ty=>run_next_nilMap (P:=Tryz.prog) W5 ty 0 0 #[]
  go_wp2_with (first
   |(refine wpList_store_mid rfl AtT (.tmp 14) (.tmp 13) rfl w.heap.size 2 (e.at_.cells v4).toArray rfl rfl HTH.out (infoAt _ _) HON4.out ?_
     rw[show w4.setCells w.heap.size 2 (e.at_.cells v4).toArray.toList=W5 from HW5.out.symm])
   |fail)
  go_loopw [4] (fun _ wr=>wr=W5.alloc (.mapIter none 0 #[] 0)) (fun _ _=>0)
  case atStart=>exact rfl
  case round=>
   obtain rfl:=hrel
   go_wp2
   go_ret
   have hb6:Below W5.heap.size W5 (W5.alloc (.mapIter none 0 #[] 0)):=(Below.refl _ _).alloc (Nat.le_refl _) _
   refine⟨w.heap.size,_,rfl,tw_leaf H.out HE.out HM.out ((hb6.block _ (lt_of_heap HQ5.out)).trans HQ5.out) (HX5.out.kept hb6.size (fun b hb=>hb6.block b (HX5.out.lt b hb))) (Nat.le_refl _) (Nat.lt_of_lt_of_le (lt_of_heap HQ5.out) hb6.size) (fun b hb=>?_),HB5.out.trans (hb6.mono HB5.out.size)⟩
   have h1:=HF4.out b hb
   have h2:=HX5.out.lt b hb
   have:=hb6.size
   exact⟨h1.1,by omega,h1.2.2⟩
 |some b=>
  rw[hm] at c10
  unfold mapV at c10
  have HM:=hid hm
  have hmm:= @run_makeMap Tryz.prog
  have hne:=map_some_ne b W5
  have c5k:(W5.alloc (.map #[] 0)).cell? ⟨w.heap.size,10,none⟩=some (.map e.m):=cell_of_heap (at_alloc HQ5.out _)
  have f5k:(W5.alloc (.map #[] 0)).frozen? ⟨w.heap.size,10,none⟩=false:=frozen_of_heap (at_alloc HQ5.out _)
  go_upto_region 5 with(first
   |(refine wpList_store_mid rfl AtT (.tmp 14) (.tmp 13) rfl w.heap.size 2 (e.at_.cells v4).toArray rfl rfl HTH.out (infoAt _ _) HON4.out ?_
     rw[show w4.setCells w.heap.size 2 (e.at_.cells v4).toArray.toList=W5 from HW5.out.symm])
   |fail)
  obtain⟨W6,hW6⟩:∃ W6,W6=(W5.alloc (.map #[] 0)).setCell ⟨w.heap.size,10,none⟩ (.map (some W5.heap.size)):=⟨_,rfl⟩
  rw[←hW6]
  obtain⟨mb,hmb⟩:∃ mb,mb=W5.heap.size:=⟨_,rfl⟩
  have HMB:=hid hmb
  have hs5:w.heap.size < W5.heap.size:=HS5.out.2
  have hq6:W6.heap[w.heap.size]? =some (.cells (TE.cells {e with p:=w.heap.size,m:=some mb,xv:=v4}).toArray NdT):=by rw[hW6,setCell_heap _ _ _ _ _ _ (at_alloc HQ5.out _),hmb];rfl
  have hb56:Below w.heap.size W5 W6:=by rw[hW6];exact((Below.refl w.heap.size W5).alloc (by omega) _).setCell (p:=⟨w.heap.size,10,none⟩) (Nat.le_refl _) _
  have HB6:Hid (Below w.heap.size w W6):=hid (HB5.out.trans hb56)
  have hm6:W6.ownsMap Tryz.prog 9 Rv mb 1000000 (toD ptr ([]:MV Nat)):=by
   have h1:(W5.alloc (.map #[] 0)).ownsMap Tryz.prog 9 Rv W5.heap.size 1000000 (toD ptr ([]:MV Nat)):=map_tight (enc:=ptr) (m:=([]:MV Nat)) (World.ownsMap_made W5 Tryz.prog 9 Rv) (by decide)
   rw[hW6,hmb]
   exact ownsMap_block h1 (Below.heap_setCell _ _ _ _ (by show W5.heap.size≠w.heap.size;omega))
  have hz6:W5.heap.size < W6.heap.size:=by have:=hm6.lt;omega
  have hx6:XsAt W6 v4 e.at_.xs:=by
   refine HX5.out.kept (by omega) (fun b hb=>?_)
   have h1:=HF4.out b hb
   have h2:=HX5.out.lt b hb
   rw[hW6]
   exact(Below.heap_setCell _ _ _ _ (by show b≠w.heap.size;exact h1.2.2)).trans (((Below.refl W5.heap.size W5).alloc (Nat.le_refl _) (.map #[] 0)).block b h2)
  have HXB:Hid (∀ b∈xob e.at_.xs v4,w.heap.size≤b∧b < W6.heap.size∧b≠w.heap.size∧b≠mb):=hid (fun b hb=>by have h1:=HF4.out b hb;have h2:=HX5.out.lt b hb;omega)
  have HQ6:=hid hq6;have HM6:=hid hm6;have HX6:=hid hx6;have HZ6:=hid hz6
  have c10':W6.cell? ⟨e.p,10,none⟩=some (.map (some b)):=by
   have h:=cell_of_heap (j:=10) ((H.out.below HB6.out).node e HE.out).cells
   have h:W6.cell? ⟨e.p,10,none⟩=some (mapV e.m):=h
   rw[HM.out] at h;exact h
  have HMP:=hid (((H.out.below HB6.out).node e HE.out).kids b HM.out)
  have HBW:Hid (b < w.heap.size):=hid ((H.out.node e HE.out).kids b HM.out).lt
  clear c10 c5k f5k hne hmm hs5 hq6 hb56 hz6 hm6 hx6 hW6 hmb hm HX5 HQ5 HB5 HB4 HX4 HF4 HTH HW5 HT4 HON4 HON HI HB2 HL2
  go_wp2_with (first
   |(at_range;refine wpList_range_own _ rfl _ 80 rfl 9 74 law Tryz.underlying80 Rv b 1000000 (toD ptr (kidsT T.L e.nm)) rfl HMP.out ?_;intro w0 hrg0 hg0 hs0)
   |go_in)
  go_frame
  have HI0:Hid (TwI w T e w.heap.size mb W6.heap.size v4 w0 (fun z=>Maps.has (toD ptr (kidsT T.L e.nm)) z) [] [] []):=hid (by
   have hb0:Below W6.heap.size W6 w0:=(Below.refl _ W6).grown hg0 (Nat.le_refl _) (by simp)
   have h1:=HM6.out.lt
   have h2:=lt_of_heap HQ6.out
   refine⟨TwL.nil _ _ _ _,ownsMap_block HM6.out (hb0.block _ h1),(hb0.block _ h2).trans HQ6.out,HX6.out.kept hb0.size (fun b hb=>hb0.block b (HX6.out.lt b hb)),by simp,fun k hk hl=>?_,by simp,HB6.out.trans (hb0.mono HB6.out.size),Nat.le_refl _,?_,h1,hrg0.lt,HXB.out⟩
   · have hl:Maps.has (toD ptr (kidsT T.L e.nm)) (.string k)=false:=hl
     rw[toD_has,hk] at hl;cases hl
   · have:=HMB.out;have:=HS5.out;omega)
  have HRG0:=hid hrg0
  clear hrg0 hg0 hs0 c10'
  go_loopw [4] (fun _ wr=>∃ (left:Lit→Bool) (cnt:Nat) (ks:List (List UInt8)) (M:MV Nat) (D:List TE),Hid (wr.ranges Tryz.prog 9 Rv b W6.heap.size 1000000 (toD ptr (kidsT T.L e.nm)) left cnt)∧Hid (TwI w T e w.heap.size mb W6.heap.size v4 wr left ks M D)) (fun _ wr=>wr.rangeLeft b W6.heap.size)
  case atStart=>exact ⟨_,_,_,_,_,HRG0,HI0⟩
  case round=>
   obtain⟨left,cnt,ks,M,D,HR,HIV⟩:=hrel
   go_wp2_with (first
    |(at_next;refine wpList_next_ranges (α:=ByteArray) (β:=Value) _ rfl _ rfl 9 law Rv Value.string id str_inv held_inv b W6.heap.size 1000000 _ _ _ (by first|rfl|simp[Act.eval,World.setCell]) HR.out ?_ ?_)
    |go_in)
   · intro _ hl0
     have HFN:Hid (TwF w.heap.size _ T e.nm w.heap.size ({e with p:=w.heap.size,m:=some mb,xv:=v4}::D)):=hid (HIV.out.fin hl0 HE.out H.out.srt H.out.parT ((H.out.kind e HE.out).2 (by rw[HM.out];simp)))
     have HBL:=hid HIV.out.bel
     clear hl0
     go_wp2
     go_ret
     exact⟨w.heap.size,_,rfl,HFN.out,HBL.out⟩
   · intro x c kl yd yp w2 cnt1 hkey hlx hv hat hrg1 hlt hg1 hs1 hen
     obtain⟨x',ex,ekl,hxl⟩:=string_of_keyOf Tryz.underlying9 hkey
     injection ex with ex
     subst ex
     subst ekl
     have hv2:yd= .held c:=by
      have:=congrArg Prod.fst (Option.some.inj hv)
      exact this.symm
     subst hv2
     have hhas:=has_true_of_atKey hat
     rw[toD_has] at hhas
     obtain⟨qk,hq⟩:=Option.isSome_iff_exists.1 hhas
     have hcn:=hat (.held .nilIface)
     rw[toD_at,hq] at hcn
     injection hcn with hcn
     have hcn':ptr qk=c:=hcn
     subst hcn'
     have HHAS:=hid hhas
     rw[kidsT_get H.out.srt] at hq
     obtain⟨kn,hkn,rfl⟩:∃ kn,getT (e.nm++[x.data.toList]) T.L=some kn∧kn.p=qk:=by
      cases hg:getT (e.nm++[x.data.toList]) T.L with
      |none=>rw [hg] at hq;cases hq
      |some kn=>rw [hg] at hq;exact⟨kn,rfl,Option.some.inj hq⟩
     obtain⟨hkm,hknm⟩:=getT_nm hkn
     have hb2:Below w.heap.size w w2:=HIV.out.bel.grown hg1 HIV.out.bel.size (fun y hy=>by obtain rfl:=Option.some.inj hy;exact HB6.out.size)
     have CL:=IH.out kn hkm _ hknm w2.drew (H.out.below hb2.drew)
     rw[hknm] at CL
     have HSL:Hid (x.data.toList.length≤maxLen):=hid (by rw[←Lib.size_eq];exact hxl)
     have HB2:=hid hb2;have HRG:=hid hrg1;have HLT:=hid hlt;have HG1:=hid hg1;have HS1:=hid hs1;have HLX:=hid hlx
     have CL:=hid CL
     have KS:Hid (∀ w',Below w2.heap.size w2 w'→w'.cell? ⟨w.heap.size,10,none⟩=some (.map (some mb))):=hid (fun w' hb=>by
      have h1:=HIV.out
      have q1:=h1.q1;have q2:=h1.q2;have q3:=h1.q3
      exact cell_of_heap (j:=10) (((hb.block _ (by omega)).trans (HG1.out.block _ (by omega) (fun e=>by injection e with e;omega))).trans h1.cells))
     have MP3:Hid (∀ w',Below w2.heap.size w2 w'→w'.ownsMap Tryz.prog 9 Rv mb 1000000 (toD ptr M)):=hid (fun w' hb=>by
      have h1:=HIV.out
      have q2:=h1.q2;have q3:=h1.q3
      have hlm:=h1.map.lt
      have:=HS1.out
      exact ownsMap_block h1.map ((hb.block _ (by omega)).trans (HG1.out.block _ hlm (fun e=>by injection e with e;omega))))
     have KS4:Hid (∀ w3 w4,Below w2.heap.size w2 w3→Turn [mb] w3 w4→w4.cell? ⟨w.heap.size,10,none⟩=some (.map (some mb))):=hid (fun w3 w4 hb ht=>by
      have h1:=HIV.out
      have q1:=h1.q1;have q2:=h1.q2;have q3:=h1.q3
      have:=HS1.out;have:=hb.size
      exact(World.cell?_of_block (a:=⟨w.heap.size,10,none⟩) (ht.block _ (by show w.heap.size < _;omega) (by simp;omega))).trans (KS.out w3 hb))
     clear hv hat hhas hcn hq hkn hkm hknm hb2 hrg1 hlt hkey hlx hg1 hs1
     unfold ptr at CL hen ⊢
     try dsimp only[id] at hen ⊢
     go_upto_region 8 with(fail)
     refine wp_region_held_drew (S:=(fun w':World=>w'.cell? ⟨w.heap.size,10,none⟩=some (.map (some mb)))) (by kernel_rfl) (KS.out _ (Below.refl _ _).drew) (fun zh=>?_)
     iterate 4
      first|refine' tj 0 rfl rfl (fun _ _ _ h=>h) ?_ zh ?_|refine' tj 1 rfl rfl (fun _ _ _ h=>h) ?_ zh ?_|refine' tj 2 rfl rfl (fun _ _ _ h=>h) ?_ zh ?_|refine' tj 3 rfl rfl (fun _ _ _ h=>h) ?_ zh ?_
      rotate_left
      · intro wS hS;have k0:=hS;go_simp;try rfl
      try simp only[Act.put,zA,zB,zC,zD,zE,zF]
     refine wpAnyH_ready (rs:=[4]) (by kernel_rfl) (by simp) ?_
     refine AllReadyH.cons rfl (fun K hK=>?_) AllReadyH.nil
     go_simp
     refine CL.out.mono ?_
     rintro ez w3 ⟨p3,C3,rfl,hC3,hb3⟩
     have HC3:=hid hC3
     have HB3:Hid (Below w2.heap.size w2 w3):=hid ((Below.refl w2.heap.size w2).drew.trans hb3)
     clear hC3 hb3
     go_wp2_with fail
     refine hK.out _ _ (KS.out _ HB3.out) ?_
     clear hK K zh
     intro zh
     try simp only[Act.put,zA,zB,zC,zD,zE,zF]
     refine wpAnyH_ready (rs:=[5]) (by kernel_rfl) (by simp) ?_
     refine AllReadyH.cons rfl (fun K hK=>?_) AllReadyH.nil
     obtain⟨w4,hrun4,hm4,ht4⟩:=kid_store (MP3.out w3 HB3.out) x.data.toList HSL.out p3 (HIV.out.pl HG1.out HS1.out HC3.out HB3.out HLX.out HHAS.out H.out.srt (HFI.out.kids e HE.out))
     rw[Rd.ba_mk] at hrun4
     unfold ptr at hrun4
     have HM4:=hid hm4
     have HT4:=hid ht4
     clear hm4 ht4
     go_simp
     refine hK.out _ _ (KS4.out _ _ HB3.out HT4.out) ?_
     clear hK K zh
     intro zh
     try simp only[Act.put,zA,zB,zC,zD,zE,zF]
     refine wpAnyH_done (by kernel_rfl) ?_ _
     clear zh
     try simp only[Act.put,zA,zB,zC,zD,zE,zF]
     have HR4:Hid (w4.ranges Tryz.prog 9 Rv b W6.heap.size 1000000 (toD ptr (kidsT T.L e.nm)) (fun z=>left z && !z.sameKey (.string x.data.toList)) cnt1):=hid (by
      have h1:=HIV.out
      have q1:=h1.q1;have q2:=h1.q2;have q3:=h1.q3
      have e1:=HS1.out;have e2:=HB3.out.size;have e3:=HBW.out;have e4:=HB6.out.size
      obtain⟨es,clock,since,seen,c0,h1,h2,h3,h4,h5,h6⟩:=HRG.out
      exact⟨es,clock,since,seen,c0,((HT4.out.block b (by omega) (by simp;omega)).trans (HB3.out.block b (by omega))).trans h1,h2,h3,h4,((HT4.out.block _ (by omega) (by simp;omega)).trans (HB3.out.block _ (by omega))).trans h5,h6⟩)
     have HI4:=hid (HIV.out.round HG1.out HS1.out HC3.out HB3.out HLX.out HHAS.out H.out.srt HT4.out HM4.out)
     clear CL KS KS4 MP3
     go_wp2
     go_roundw
     case rel=>exact ⟨_,cnt1,_,_,_,HR4,HI4⟩
     case measure=>
      rw[HR4.out.left_eq,HR.out.left_eq];exact HLT.out
theorem twin_any (B r:Nat) (T:Tr) (hF:Fine T) (M:Nat) (hM:∀ e∈T.L,e.nm.length≤M):∀ (k:Nat) (e:TE),e∈T.L→M≤e.nm.length+k→TwinOk B r T e
 |0,e,he,hk=>twin_step B r T hF e he (fun x hx s hxn=>by
   have:=hM x hx
   rw[hxn,List.length_append,List.length_singleton] at this
   omega)
 |k+1,e,he,hk=>twin_step B r T hF e he (fun x hx s hxn=>twin_any B r T hF M hM k x hx (by rw[hxn,List.length_append,List.length_singleton];omega))
theorem TwF.kept {C0:Nat} {w w':World} {T:Tr} {n:PN} {p:Nat} {C:List TE} (h:TwF C0 w T n p C) (hs:w.heap.size≤w'.heap.size) (hb:∀ b,C0≤b→w'.heap[b]? =w.heap[b]?):TwF C0 w' T n p C:=
 ⟨h.perm,h.root,h.lies.kept hs (fun b hx=>hb b (h.lies.fresh b hx))⟩
theorem twintree_any (B:Nat) (w:World) (r:Nat) (T:Tr) (hF:Fine T) (h:TreeAt B w r T):
 Calls Tryz.prog 18 #[ptr r] w fun z w'=>∃ r2 U,z= .returned (ptr r2)∧TreeAt w.heap.size w' r2 U∧U.bare=T.bare∧Below w.heap.size w w':=by
 obtain⟨M,hM⟩:=max_len T.L
 obtain⟨e,he0,hr⟩:=h.root
 obtain⟨he,hn⟩:=getT_nm he0
 have TW:=twin_any B r T hF M hM M e he (by omega)
 have HTW:=hid TW;have H:=hid h;have HN:=hid hn
 unfold ptr at hr
 have HRW:Hid (w.rangeAt r 0 [.pointer (some ⟨e.p,0,none⟩),.int .i64 (T.clock:Int),.int .u64 (T.most:Int),.int .i64 (T.reads:Int)]):=hid (range_block hr)
 have HI:Hid ((Tryz.prog.info? TrT).map (·.size)=some ([.pointer (some ⟨e.p,0,none⟩),.int .i64 (T.clock:Int),.int .u64 (T.most:Int),.int .i64 (T.reads:Int)]:List Value).toArray.size):=hid (by show _=some 4;kernel_rfl)
 have c0:w.cell? ⟨r,0,none⟩=some (.pointer (some ⟨e.p,0,none⟩)):=cell_of_heap hr
 have HR:=hid hr
 clear h hF he0 he hn hM TW hr
 unfold ptr at*
 go_enter Tryz.func18,Tryz.ntmps18
 obtain⟨w2,hw2⟩:∃ w2,w2=w.alloc (.cells #[.pointer (some ⟨e.p,0,none⟩),.int .i64 (T.clock:Int),.int .u64 (T.most:Int),.int .i64 (T.reads:Int)] TrT):=⟨_,rfl⟩
 have hq2:w2.heap[w.heap.size]? =some (.cells #[.pointer (some ⟨e.p,0,none⟩),.int .i64 (T.clock:Int),.int .u64 (T.most:Int),.int .i64 (T.reads:Int)] TrT):=by rw[hw2];exact(MapKept.heap_alloc w _).1
 have hb2:Below w.heap.size w w2:=by rw[hw2];exact(Below.refl _ _).alloc (Nat.le_refl _) _
 have HQ2:=hid hq2;have HB2:=hid hb2;have HW2:=hid hw2
 have c02:(w.alloc (.cells #[.pointer (some ⟨e.p,0,none⟩),.int .i64 (T.clock:Int),.int .u64 (T.most:Int),.int .i64 (T.reads:Int)] TrT)).cell? ⟨r,0,none⟩=some (.pointer (some ⟨e.p,0,none⟩)):=by
  rw[←hw2];exact cell_of_heap ((hb2.block r (lt_of_heap HR.out)).trans HR.out)
 have CL:=HTW.out w2 (H.out.below hb2)
 rw[HN.out] at CL
 unfold ptr at CL
 have CL:=hid CL
 clear hq2 hb2 hw2
 go_wp2_with (first
  |(refine wpList_load_mid rfl _ _ rfl r 0 rfl [.pointer (some ⟨e.p,0,none⟩),.int .i64 (T.clock:Int),.int .u64 (T.most:Int),.int .i64 (T.reads:Int)] _ HRW.out Tryz.underlying84 rfl HI.out ?_)
  |fail)
 have hch:(w.alloc (.cells #[.pointer (some ⟨e.p,0,none⟩),.int .i64 (T.clock:Int),.int .u64 (T.most:Int),.int .i64 (T.reads:Int)] TrT))=w2:=HW2.out.symm
 rw[hch]
 clear hch c02 c0
 refine CL.out.mono ?_
 rintro ex w3 ⟨p,C,rfl,hC,hb3⟩
 have hl2:=lt_of_heap HQ2.out
 have hq3:w3.heap[w.heap.size]? =some (.cells #[.pointer (some ⟨e.p,0,none⟩),.int .i64 (T.clock:Int),.int .u64 (T.most:Int),.int .i64 (T.reads:Int)] TrT):=(hb3.block _ hl2).trans HQ2.out
 have HC:=hid hC;have HB3:=hid hb3;have HQ3:=hid hq3;have HL2:=hid hl2
 have hcur:∃ u,w3.cell? ⟨w.heap.size,0,none⟩=some u:=⟨.pointer (some ⟨e.p,0,none⟩),cell_of_heap hq3⟩
 obtain⟨u,cu⟩:=hcur
 have fu:w3.frozen? ⟨w.heap.size,0,none⟩=false:=frozen_of_heap hq3
 clear hC hb3 hq3 hl2 CL
 go_wp2
 go_ret
 obtain⟨W,hW⟩:∃ W,W=w3.setCell ⟨w.heap.size,0,none⟩ (.pointer (some ⟨p,0,none⟩)):=⟨_,rfl⟩
 rw[←hW]
 have hq4:W.heap[w.heap.size]? =some (.cells #[ptr p,.int .i64 (T.clock:Int),.int .u64 (T.most:Int),.int .i64 (T.reads:Int)] TrT):=by rw[hW,setCell_heap _ _ _ _ _ _ HQ3.out];rfl
 have hb4:Below w.heap.size w3 W:=by rw[hW];exact(Below.refl _ _).setCell (p:=⟨w.heap.size,0,none⟩) (Nat.le_refl _) _
 have hb:Below w.heap.size w W:=(HB2.out.trans (HB3.out.mono HB2.out.size)).trans hb4
 have hC4:TwF w2.heap.size W T [] p C:=HC.out.kept hb4.size (fun b hb=>by rw[hW];exact Below.heap_setCell _ _ _ _ (by have:=HL2.out;show b≠w.heap.size;omega))
 obtain⟨h1,h2,_⟩:=hC4.tree (B2:=w.heap.size) H.out hq4 (fun hc=>by have:=hC4.lies.fresh _ hc;have:=HL2.out;omega) HB2.out.size (Nat.le_refl _)
 exact⟨w.heap.size,_,rfl,h1,h2,hb⟩
def findR (n:Nat):Code→Option Code
 | .region id ops d=>if id=n then some (.region id ops d) else none
 | .seq a b=>match findR n a with
   |some c=>some c
   |none=>findR n b
 | .block _ c=>findR n c
 | .cond _ a b=>match findR n a with
   |some c=>some c
   |none=>findR n b
 | .loop c=>findR n c
 |_=>none
def findB (n:Nat):Code→Option Code
 | .seq a b=>match findB n a with
   |some c=>some c
   |none=>findB n b
 | .block k c=>if k==n then some (.block k c) else findB n c
 | .cond _ a b=>match findB n a with
   |some c=>some c
   |none=>findB n b
 | .loop c=>findB n c
 |_=>none
def NodeVar (w:World) (q:Nat) (e:TE) (xv:Value):Prop:=w.heap[q]? =some (.cells (vcells e xv).toArray VnT)
theorem NodeVar.below {w w':World} {q:Nat} {e:TE} {xv:Value} (h:NodeVar w q e xv) (hb:Below w.heap.size w w'):NodeVar w' q e xv:=(hb.block _ (lt_of_heap h)).trans h
theorem NodeVar.cells {w:World} {q:Nat} {e:TE} {xv:Value} (h:NodeVar w q e xv):w.cell? ⟨q,0,none⟩=some (.string ⟨(pathN e.nm).toArray⟩)∧w.cell? ⟨q,1,none⟩=some (.int .u8 (e.at_.node:Int))∧w.cell? ⟨q,9,none⟩=some (.int .u64 (e.ino:Int))∧w.cell? ⟨q,10,none⟩=some (.int .i64 e.tick):=
 ⟨cell_of_heap h,cell_of_heap h,cell_of_heap h,cell_of_heap h⟩
def OldK (L:List TE) (i m:Nat) (o:Int):Prop:=(o= -1∧∀ (j:Nat) x,j < m→L[j]? =some x→x.ino≠i)∨∃ (j:Nat) (x:TE),o=(j:Int)∧L[j]? =some x∧x.ino=i
theorem OldK.skip {L:List TE} {i m:Nat} {o:Int} (h:OldK L i m o) {x:TE} (hx:L[m]? =some x) (hn:x.ino≠i):OldK L i (m+1) o:=by
 rcases h with⟨h1,h2⟩|h
 · refine .inl ⟨h1,fun j y hj hy=>?_⟩
   by_cases hjm:j=m
   · subst hjm;rw[hx] at hy;obtain rfl:=Option.some.inj hy;exact hn
   · exact h2 j y (by omega) hy
 · exact .inr h
def Stp.At (w:World) (b o:Nat) (x:Stp):Prop:=∀ (j:Nat) v,x.cells[j]? =some v→w.cell? ⟨b,o+j,none⟩=some v
def StpsAt (w:World) (v:Value) (l:List Stp):Prop:=
 ∃ a cap,v= .slice a l.length cap∧l.length≤maxLen∧(l≠[]→∃ b o,a=some ⟨b,o,none⟩∧b < w.heap.size∧∀ (i:Nat) x,l[i]? =some x→x.At w b (o+i*11))∧∀ x∈l,x.Fits w
theorem Stp.Fits.below {w w':World} {x:Stp} (h:x.Fits w) (hb:Below w.heap.size w w'):x.Fits w':=
 ⟨h.path,h.more,h.target,h.xs.kept hb.size (fun b hx=>hb.block b (h.xs.lt b hx)),h.xl⟩
structure WhSt (B:Nat) (w:World) (r:Nat) (T:Tr) (k:Nat):Prop where
 tree:TreeAt B w r T
 good:Good k T
 reads:T.reads≤k
 clk:T.clock≤k
section
variable {B C:Nat} {w w':World} {r k:Nat} {T T':Tr} {v0:Value} {R0:List (TE×Value)}
theorem WhSt.below (h:WhSt B w r T k) (hb:Below w.heap.size w w'):WhSt B w' r T k:=⟨h.tree.below hb,h.good,h.reads,h.clk⟩
theorem own_base {B':Nat} (h:TreeAt B' w r T):∀ x∈r::ownL T.L,B'≤x:=fun x hx=>h.base x (by
 rw[List.mem_cons] at hx ⊢
 exact hx.imp id (fun h=>List.mem_append_left _ h))
theorem WhSt.run (h:WhSt B w r T k) {x:Stp} {e:Ending} (hp:RunP B w r T x e w') (hB:B≤w.heap.size):e= .returned (.int .i64 (runE x T))∧∃ T',WhSt B w' r T' (k+1)∧Below B w w':=by
 obtain⟨he,T',htr,htu,_,hch,hri⟩:=hp
 have hF:=hri.facts h.tree
 have hG:=ChT.good h.tree hch h.good
 refine⟨he,T',⟨htr,⟨hG.deep,hG.names,hG.att,hG.data,hG.ino,hG.inos,hG.tick,hG.clock,hG.most,hG.len⟩,?_,?_⟩,htu.below (own_base h.tree) hB⟩
 · rw[hF.reads];have:=h.reads;split <;> omega
 · have:=h.clk
   cases hc:chgd x T with
   |true=>have:=hF.yes hc;omega
   |false=>have:=(hF.no hc).2;omega
structure MvSt (B C:Nat) (w:World) (r:Nat) (T:Tr) (v0:Value) (R0:List (TE×Value)):Prop where
 tree:TreeAt B w r T
 out:OutAt C w v0 R0
 sep:∀ x∈r::(ownL T.L++xobL T.L),x ∉ ob v0++R0.flatMap (fun p=>ob p.2)
theorem MvSt.below (h:MvSt B C w r T v0 R0) (hb:Below w.heap.size w w'):MvSt B C w' r T v0 R0:=⟨h.tree.below hb,h.out.below hb,h.sep⟩
theorem MvSt.call (h:MvSt B C w r T v0 R0) (hc:CallT B w r T w' T') (hB:B≤w.heap.size):MvSt B C w' r T' v0 R0∧Below B w w':=by
 refine⟨⟨hc.tree,h.out.kept (fun b hb hl=>hc.turn.block b hl (fun hx=>h.sep b ?_ hb)),fun x hx hb=>?_⟩,hc.turn.below (own_base h.tree) hB⟩
 · rw[List.mem_cons] at hx ⊢
   exact hx.imp id (fun h=>List.mem_append_left _ h)
 · have hlt:=(h.out.lt x hb).2
   rcases List.mem_cons.1 hx with rfl|hx
   · exact h.sep x (List.mem_cons_self ..) hb
   · rcases hc.own x hx with h1|h1
     · exact h.sep x (List.mem_cons_of_mem _ h1) hb
     · omega
end
abbrev blkT (r:Nat) (T:Tr):List Nat:=r::(ownL T.L++xobL T.L)
structure Eff (B:Nat) (w:World) (r:Nat) (T:Tr) (w':World) (T':Tr):Prop where
 tree:TreeAt B w' r T'
 turn:Turn (r::ownL T.L) w w'
 own:∀ b∈ownL T'.L++xobL T'.L,b∈ownL T.L++xobL T.L∨w.heap.size≤b
section
variable {B C:Nat} {w w':World} {r r2 k:Nat} {T T' U:Tr} {v:Value} {R:List (TE×Value)}
theorem CallT.eff (h:CallT B w r T w' T'):Eff B w r T w' T':=⟨h.tree,h.turn,h.own⟩
theorem Eff.same (h:TreeAt B w r T) (hb:Below w.heap.size w w'):Eff B w r T w' T:=(CallT.same h hb).eff
theorem Eff.blk (h:Eff B w r T w' T'):∀ b∈blkT r T',b∈blkT r T∨w.heap.size≤b:=by
 intro b hb
 rcases List.mem_cons.1 hb with rfl|hb
 · exact .inl (List.mem_cons_self ..)
 · exact(h.own b hb).imp (List.mem_cons_of_mem _) id
theorem Eff.off (h:Eff B w r T w' T') {b:Nat} (hb:b < w.heap.size) (hx:b ∉ blkT r T):w'.heap[b]? =w.heap[b]? :=
 h.turn.block b hb (fun hc=>hx (by
  rcases List.mem_cons.1 hc with rfl|hc
  · exact List.mem_cons_self ..
  · exact List.mem_cons_of_mem _ (List.mem_append_left _ hc)))
theorem Eff.below (h:Eff B w r T w' T') (hT:TreeAt B w r T) (hB:B≤w.heap.size):Below B w w':=h.turn.below (own_base hT) hB
structure Two (B:Nat) (w:World) (r:Nat) (T:Tr) (r2:Nat) (U:Tr):Prop where
 t:TreeAt B w r T
 u:TreeAt B w r2 U
 ap:∀ x∈blkT r T,x ∉ blkT r2 U
theorem Two.symm (h:Two B w r T r2 U):Two B w r2 U r T:=⟨h.u,h.t,fun x hx hy=>h.ap x hy hx⟩
theorem Two.below (h:Two B w r T r2 U) (hb:Below w.heap.size w w'):Two B w' r T r2 U:=⟨h.t.below hb,h.u.below hb,h.ap⟩
theorem Two.eff (h:Two B w r T r2 U) (e:Eff B w r T w' T'):Two B w' r T' r2 U:=by
 refine⟨e.tree,h.u.kept e.turn.size (fun b hb=>e.off (h.u.lt b hb) (fun hc=>h.ap b hc hb)),fun x hx hy=>?_⟩
 rcases e.blk x hx with h1|h1
 · exact h.ap x h1 hy
 · have:=h.u.lt x hy;omega
def Sep (r:Nat) (T:Tr) (v:Value) (R:List (TE×Value)):Prop:=∀ x∈blkT r T,x ∉ ob v++R.flatMap (fun p=>ob p.2)
theorem Sep.eff (h:Sep r T v R) (ho:OutAt C w v R) (e:Eff B w r T w' T'):OutAt C w' v R∧Sep r T' v R:=by
 refine⟨ho.kept (fun b hb hl=>e.off hl (fun hc=>h b hc hb)),fun x hx hb=>?_⟩
 have hlt:=(ho.lt x hb).2
 rcases e.blk x hx with h1|h1
 · exact h x h1 hb
 · omega
structure Bnd (T:Tr) (k:Nat):Prop where
 good:Good k T
 reads:T.reads≤k
theorem run_eff {x:Stp} {e:Ending} (h:TreeAt B w r T) (g:Bnd T k) (hp:RunP B w r T x e w'):e= .returned (.int .i64 (runE x T))∧∃ T',Eff B w r T w' T'∧Bnd T' (k+1)∧T'.bare=runN x T.bare:=by
 obtain⟨he,T',htr,htu,how,hch,hri⟩:=hp
 have hF:=hri.facts h
 have hG:=ChT.good h hch g.good
 refine⟨he,T',⟨htr,htu,how⟩,⟨⟨hG.deep,hG.names,hG.att,hG.data,hG.ino,hG.inos,hG.tick,hG.clock,hG.most,hG.len⟩,?_⟩,bare_run hri h htr⟩
 rw[hF.reads];have:=g.reads;split <;> omega
theorem Bnd.of_bare (g:Bnd T k) (h:U.bare=T.bare):Bnd U k:=by
 have hL:U.L.map bare=T.L.map bare:=(show U.bare.L=T.bare.L by rw[h])
 have hc:U.clock=T.clock:=(show U.bare.clock=T.bare.clock by rw[h])
 have hm:U.most=T.most:=(show U.bare.most=T.bare.most by rw[h])
 have hr:U.reads=T.reads:=(show U.bare.reads=T.bare.reads by rw[h])
 have hl:U.L.length=T.L.length:=by have:=congrArg List.length hL;rwa [List.length_map,List.length_map] at this
 have tob:∀ e∈U.L,∃ y∈T.L,bare y=bare e:=fun e he=>List.mem_map.1 (by rw[←hL];exact List.mem_map.2 ⟨e,he,rfl⟩)
 have key:∀ {P:TE→Prop},(∀ a,P a ↔ P (bare a))→(∀ e∈T.L,P e)→∀ e∈U.L,P e:=fun hP hT e he=>by
  obtain⟨y,hy,hb⟩:=tob e he
  rw[hP,←hb,←hP];exact hT y hy
 have G:=g.good
 refine⟨⟨key (fun _=>Iff.rfl) G.deep,key (fun _=>Iff.rfl) G.names,key (fun _=>Iff.rfl) G.att,key (fun _=>Iff.rfl) G.data,?_,?_,?_,by rw[hc];exact G.clock,by rw[hm];exact G.most,by rw[hl];exact G.len⟩,by rw[hr];exact g.reads⟩
 · rw[hm];exact key (fun _=>Iff.rfl) G.ino
 · have h1:(T.L.map bare).Pairwise fun a b=>a.ino≠b.ino:=by rw[List.pairwise_map];exact G.inos
   rw[←hL,List.pairwise_map] at h1
   exact h1
 · rw[hc];exact key (fun _=>Iff.rfl) G.tick
end
theorem goodF_of {B:Nat} {w:World} {r:Nat} {T:Tr} {k:Nat} (h:TreeAt B w r T) (g:Good k T):GoodF k T.bare:=by
 have hm:∀ {p:TE→Prop},(∀ e∈T.L,p (bare e))→∀ e∈T.bare.L,p e:=by
  intro p hp e he
  obtain⟨x,hx,rfl⟩:=List.mem_map.1 (show e∈T.L.map bare from he)
  exact hp x hx
 refine⟨?_,?_,hm ?_,hm g.deep,hm g.names,hm g.att,hm g.data,g.most,?_⟩
 · show(T.L.map bare).Pairwise _
   rw[List.pairwise_map];exact h.srt
 · obtain⟨e,he,_⟩:=h.root
   exact⟨bare e,by show getT [] (T.L.map bare)=_;rw[getT_bare,he];rfl⟩
 · intro e he n s hn
   obtain⟨u,hu,h1,h2⟩:=h.par e he n s hn
   exact⟨bare u,List.mem_map.2 ⟨u,hu,rfl⟩,h1,(h.kind u hu).2 h2⟩
 · show(T.L.map bare).length≤_
   rw[List.length_map];exact g.len
end Go.Proofs.YtnmejonfdfdegaaGreatDoor.Sr
