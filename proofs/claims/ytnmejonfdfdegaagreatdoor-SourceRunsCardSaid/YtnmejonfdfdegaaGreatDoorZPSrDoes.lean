import Derived.Test.YtnmejonfdfdegaaGreatDoorZPSrDo8
import Derived.Test.YtnmejonfdfdegaaGreatDoorZPRtTwin
import Derived.Test.YtnmejonfdfdegaaGreatDoorZPSrAlike
import Derived.Test.YtnmejonfdfdegaaGreatDoorZPSrOwn
import Derived.Test.YtnmejonfdfdegaaGreatDoorZPRtClear
import Derived.Test.YtnmejonfdfdegaaGreatDoorZPSrTwin
import Derived.Test.YtnmejonfdfdegaaGreatDoorZPSrStat
set_option linter.unusedSimpArgs false
set_option linter.unusedVariables false
set_option maxHeartbeats 16000000
set_option maxRecDepth 100000
namespace Go.Proofs.YtnmejonfdfdegaaGreatDoor.Sr
open Go.RowKit Go.Maps Go.WideMaps Rf Go.Proofs.YtnmejonfdfdegaaGreatDoor.Nm St
open Lib (hid)
def DoesP (B k:Nat) (w:World) (r:Nat) (T:Tr) (q:Nat) (v:Value) (R:List RN) (e:Ending) (w':World):Prop:=
 e= .returned (.bool true)∧∃ T' v' R',Dbl B w r T q v R w' T' v' R' T'.bare∧Bd T' (k+1)
theorem putAll_size:∀ (vs:List Value) (o:Nat) (cur:Array Value),(putAll cur o vs).size=cur.size
 |[],_,_=>rfl
 |v::r,o,cur=>by
  show(putAll (cur.setIfInBounds o v) (o+1) r).size=_
  rw[putAll_size r];simp
theorem does_any (B k:Nat) (w:World) (r q:Nat) (T:Tr) (v:Value) (R:List RN) (x:Stp) (h:Pr B w r T q v R T.bare) (g0:Bd T k) (hk:k≤900) (hT:∀ w':World,Below B w w'→Tabs w') (hF:x.Fits w) (hub:∀ b∈xob x.A.xs x.v,b < B):
 Calls Tryz.prog 20 #[ptr r,ptr q,.agg x.cells.toArray] w (DoesP B k w r T q v R):=by
 obtain⟨kind,who,path,more,A,u⟩:=x
 obtain⟨W,hW⟩:∃ W,W=w.alloc (.cells (Stp.mk kind who path more A u).cells.toArray 69):=⟨_,rfl⟩
 have hb0:Below w.heap.size w W:=by rw[hW];exact(Below.refl _ _).alloc (Nat.le_refl _) _
 have hq0:W.heap[w.heap.size]? =some (.cells (Stp.mk kind who path more A u).cells.toArray 69):=by rw[hW];exact(MapKept.heap_alloc w _).1
 have hws:W.heap.size=w.heap.size+1:=by rw[hW,one_size]
 have HB0:=hid hb0;have HW:=hid hW;have HH:=hid h;have HG:=hid g0;have HT:=hid hT;have HUB:=hid hub
 have hp:path.length≤140737488351232:=hF.path
 have hm:more.length≤140737488351232:=hF.more
 have ht:A.target.length≤140737488351232:=hF.target
 have hxl:A.xs.length*32≤140737488351232:=hF.xl
 have HU:Hid (XsAt w u A.xs):=hid hF.xs
 have hxs:XsAt W u A.xs:=hF.xs.kept hb0.size (fun b hb=>hb0.block b (hF.xs.lt b hb))
 have IN:=hid (in18m_any W A u hxs hxl)
 have HRG:Hid ((w.alloc (.cells (Stp.mk kind who path more A u).cells.toArray 69)).rangeAt w.heap.size 4 (A.cells u)):=hid (fun j z hz=>by
  rw[←hW,cell_of_heap hq0,List.getElem?_toArray,Nat.add_comm 4 j]
  exact hz)
 have KX:Hid (∀ w':World,Below W.heap.size W w'→w'.heap[w.heap.size]? =some (.cells (Stp.mk kind who path more A u).cells.toArray 69)):=hid (fun w' hb=>(hb.block _ (lt_of_heap hq0)).trans hq0)
 have KR:Hid (∀ w':World,w'.heap[w.heap.size]? =some (.cells (Stp.mk kind who path more A u).cells.toArray 69)→w'.rangeAt w.heap.size 4 (A.cells u)∧w'.cell? ⟨w.heap.size,0,none⟩=some (.int .i64 kind)):=hid (fun w' h0=>⟨fun j z hz=>by
  rw[cell_of_heap h0,List.getElem?_toArray,Nat.add_comm 4 j];exact hz,cell_of_heap h0⟩)
 have HWS:=hid hws
 clear h hb0 g0 hT hF hq0 hxs hW hub hws
 unfold Stp.cells at HW HRG ⊢
 dsimp only at HW HRG ⊢
 unfold ptr at*
 go_enter Tryz.func20,Tryz.ntmps20
 go_wp2_with (first
  |(refine wpList_load_mid rfl _ _ rfl w.heap.size 4 rfl (A.cells u) _ HRG.out Tryz.underlying67 rfl (by show _=some 7;kernel_rfl) ?_)
  |fail)
 rw[←HW.out]
 refine IN.out.mono ?_
 rintro ex w1 ⟨g,c,rfl,hrow,hln,hb1⟩
 have HROW:=hid hrow;have HLN:=hid hln;have HB1:=hid hb1
 have hx1:=(mark_xs hrow hln).1
 have HX1:=hid hx1
 have HGL:Hid (g < w1.heap.size):=hid (rowS_lt hrow g (by simp[ob,Value.ownBlock]))
 have HGE:Hid (W.heap.size≤g):=hid (rowS_ge hrow g (by simp[ob,Value.ownBlock]))
 have ON:=hid (atOne A (xs_one hx1))
 have ONU:=hid (atOne A (xs_one HU.out))
 have HX1K:=KX.out w1 hb1
 have HXW1:=hid HX1K
 obtain⟨n,hn⟩:∃ n,n=A.xs.length:=⟨_,rfl⟩
 have HN:=hid hn
 clear hrow hln hb1 hx1 IN HRG HX1K hn
 go_upto_block 0 with(first
  |(refine wpList_store_new rfl rfl AtT (.tmp 7) (.tmp 17) rfl (A.cells (.slice (some ⟨g,0,none⟩) A.xs.length c)).toArray rfl rfl (infoAt _ _) rfl ON.out ?_
    intro w2 hq2 hb2 hs2
    have HQ2:=hid hq2;have HB2:=hid hb2;have HS2:=hid hs2
    have HXW2:=hid ((hb2.block _ (lt_of_heap HXW1.out)).trans HXW1.out)
    clear hq2 hb2 hs2)
  |(refine wpList_load_mid rfl _ _ rfl w.heap.size 4 rfl (A.cells u) _ (KR.out _ ((Below.heap_alloc _ _ _ (lt_of_heap HXW2.out)).trans HXW2.out)).1 Tryz.underlying67 rfl (by show _=some 7;kernel_rfl) ?_)
  |(refine wpList_load_mid rfl _ _ rfl w.heap.size 4 rfl (A.cells u) _ (KR.out _ HXW2.out).1 Tryz.underlying67 rfl (by show _=some 7;kernel_rfl) ?_)
  |(refine wpList_store_new rfl rfl 67 (.tmp 8) (.tmp 19) rfl (A.cells u).toArray rfl rfl (infoAtR _ _) rfl ONU.out ?_
    intro w3 hq3 hb3 hs3
    have HQ3:=hid hq3;have HB3:=hid hb3;have HS3:=hid hs3
    have hxw3:=(hb3.block _ (lt_of_heap HXW2.out)).trans HXW2.out
    have HXW3:=hid hxw3
    have k3:=(KR.out _ hxw3).2
    clear hq3 hb3 hs3 hxw3)
  |fail)
 have HSZ:Hid (w.heap.size < w1.heap.size∧w.heap.size < W.heap.size∧W.heap.size≤w1.heap.size):=hid (by have h1:=HWS.out;have h2:=HB1.out.size;omega)
 have HB12:Hid (Below w.heap.size w w1):=hid (HB0.out.trans (HB1.out.mono HB0.out.size))
 have HB03:Hid (Below w.heap.size w w3):=hid ((HB12.out.trans (HB2.out.mono HB12.out.size)).trans (HB3.out.mono (Nat.le_trans HB12.out.size HB2.out.size)))
 have HAB3:Hid (w3.heap[w1.heap.size]? =some (.cells (A.cells (.slice (some ⟨g,0,none⟩) A.xs.length c)).toArray AtT)):=hid ((HB3.out.block _ (lt_of_heap HQ2.out)).trans HQ2.out)
 have HK13:Hid (∀ b,b < w1.heap.size→w3.heap[b]? =w1.heap[b]?):=hid (fun b hb=>(HB3.out.block b (Nat.lt_of_lt_of_le hb HB2.out.size)).trans (HB2.out.block b hb))
 have HV3:Hid (XsAt w3 (.slice (some ⟨g,0,none⟩) A.xs.length c) A.xs):=hid (HX1.out.kept (Nat.le_trans HB2.out.size HB3.out.size) (fun b hb=>HK13.out b (HX1.out.lt b hb)))
 have HVN:Hid (∀ b∈xob A.xs (.slice (some ⟨g,0,none⟩) A.xs.length c),w.heap.size≤b∧b≠w2.heap.size):=hid (fun b hb=>by
  have h1:=(mark_xs HROW.out HLN.out).2 b hb
  have h2:=HX1.out.lt b hb
  have h3:=HSZ.out;have h4:=HB2.out.size
  omega)
 refine do_sw _ _ _ _ _ _ _ _ _ _ _ _ _ _ _ _ _ _ _ _ _ _ _ _ _ _ _ _ _ _ _ _ _ _ _ _ _ _ _ _ _ _ _ _ _ _ _ _ _ _ _ _ _ _ _ _ _ _ _ _ _ _ _ _ _ _ _ _ _ _ _ _ _ _ _ _ _ _ _ _ _ _ _ _ _ _ _ _ _ _ _ _ _ _ _ _ _ _ _ _ _ _ _ _ _ _ _ _ _ _ _ _ _ _ _ _ _ _ _ _ _ _ _ _ _ _ _ _ _ _ _ _ _ _ _ _ _ _ _ _ _ _ _ _ _ _ _ _ _ _ _ _ _ _ _ _ _ _ _ _ _ _ _ _ _ _ _ _ _ _ _ _ _ _ _ _ _ _ _ _ _ _ _ _ _ _ _ _ _ _ _ _ _ _ _ _ _ _ _ _ _ _ _ _ _ _ (by intro c a a_ w hd h;have h2:a.defers=[]∧_:=h;exact And.intro (hd.symm.trans h2.1) h2.2) HH HG hk HB03 HT HXW3 HAB3 HQ3 (hid ⟨Nat.le_refl _,Nat.le_of_lt HSZ.out.1,Nat.le_trans (Nat.le_of_lt HSZ.out.1) HB2.out.size⟩) (by have h1:=HSZ.out;have h2:=HB2.out.size;omega) (by have h1:=HS2.out;omega) HV3 HVN HU HUB hp hm ht ?_
 intro ja jb jc jd je jf jg jh ji jj jk jl jm jn jo jp jq jr js jt ju jv jw jx jy jz jA jB jC jD jE jF jG jH jI jJ jK jL jM jN jO jP jQ jR jS jT jU jV jW jX jY jZ j0 j1 j2 j3 j4 j5 j6 j7 j8 j9 ya yb yc yd ye yf yg yh yi yj yk yl ym yn yo yp yq yr ys yt yu yv yw yx yy yz yA yB yC yD yE yF yG yH yI yJ yK yL yM yN yO yP yQ yR yS yT yU yV yW yX yY yZ y0 y1 y2 y3 y4 y5 y6 y7 y8 y9 Ja Jb Jc Jd Je Jf Jg Jh Ji Jj Jk Jl Jm Jn Jo Jp Jq Jr Js Jt Ju Jv Jw Jx Jy Jz JA JB JC JD JE JF JG JH JI JJ JK JL JM JN JO JP JQ JR JS JT JU JV JW JX w4 hq
 obtain⟨T',v',R',hd,hg,hs4,hfar,hblk⟩:=hq
 have HD:=hid hd;have HG4:=hid hg;have HS4:=hid hs4;have HBK:=hid hblk
 have hg3:g < w3.heap.size:=Nat.lt_of_lt_of_le HGL.out (Nat.le_trans HB2.out.size HB3.out.size)
 have hg2:g≠w2.heap.size:=by have h1:=HGL.out;have h2:=HB2.out.size;omega
 have hgw:w.heap.size≤g:=Nat.le_trans (Nat.le_of_lt HSZ.out.2.1) HGE.out
 have HGN:Hid (g ∉ blkT r T'++rblk q v' R'):=hid (fun hc=>by rcases hblk g hc with h1|h1 <;> omega)
 have HGW:=hid hgw
 have hga:g≠w1.heap.size:=by have h1:=HGL.out;omega
 have hgx:g≠w.heap.size:=by have h1:=HGE.out;have h2:=HSZ.out;omega
 have HROW4:Hid (w4.ownsRow W.heap.size 123 2 (.slice (some ⟨g,0,none⟩) (A.xs.length+1) c) (A.xs.length+1) (xcells (A.xs++[mrk]))):=hid (rowS_kept HROW.out (fun b hb hl=>by
  have:b=g:=by simp[ob,Value.ownBlock] at hb;exact hb
  subst this
  exact(hfar b hgw hg3 hg2).trans (HK13.out b hl)))
 have HXW4:Hid (w4.heap[w.heap.size]? =some (.cells (Stp.mk kind who path more A u).cells.toArray 69)):=hid ((hfar _ (Nat.le_refl _) (lt_of_heap HXW3.out) (by have h1:=HSZ.out;have h2:=HB2.out.size;omega)).trans HXW3.out)
 have HAB4:Hid (w4.heap[w1.heap.size]? =some (.cells (A.cells (.slice (some ⟨g,0,none⟩) A.xs.length c)).toArray AtT)):=hid ((hfar _ (Nat.le_of_lt HSZ.out.1) (lt_of_heap HAB3.out) (by have h1:=HS2.out;omega)).trans HAB3.out)
 have HBB:Hid (B≤w.heap.size):=hid HH.out.size
 have hu4:XsAt w4 u A.xs:=HU.out.kept hd.turn.size (fun b hb=>hd.turn.block b (HU.out.lt b hb) (fun hc=>by
  have h1:=HUB.out b hb
  rcases List.mem_append.1 hc with hc|hc
  · have:=HH.out.t.base b hc;omega
  · rcases List.mem_cons.1 hc with rfl|hc
    · have:=HH.out.f.base;omega
    · have:=rowS_ge HH.out.f.row b hc;omega))
 have KE:=hid (kept_any w4 A g c W.heap.size u HROW4.out HLN.out hu4)
 have HRA:Hid (w4.rangeAt w1.heap.size 0 (A.cells (.slice (some ⟨g,0,none⟩) A.xs.length c))):=hid (fun j z hz=>by rw[cell_of_heap HAB4.out,List.getElem?_toArray,Nat.zero_add];exact hz)
 have HRX:=hid (KR.out w4 HXW4.out).1
 clear hd hg hs4 hfar hblk hu4 k3
 go_wp2_with (first
  |(go_guarded;refine wp_load_mid AtT (.tmp 7) rfl w1.heap.size 0 rfl (A.cells (.slice (some ⟨g,0,none⟩) A.xs.length c)) _ HRA.out Tryz.underlying79 rfl (infoAt _ _) ?_)
  |(go_guarded;refine wp_load_mid 67 (.tmp 196) rfl w.heap.size 4 rfl (A.cells u) _ HRX.out Tryz.underlying67 rfl (infoAtR _ _) ?_)
  |fail)
 refine KE.out.mono ?_
 rintro ex w5 ⟨rfl,hb5⟩
 have HB5:=hid hb5
 have hcap:n≤c∧c≤maxLen:=by
  obtain⟨_,⟨h0,_⟩|⟨_,_,_,hv2,_,_,h1,h2,_⟩⟩:=HROW4.out
  · cases h0
  · injection hv2 with _ _ e3;rw[e3,HN.out];exact⟨by omega,h2⟩
 have HC:Hid (∃ cur,w5.heap[g]? =some (.cells cur 123)∧cur.size=c*2):=hid (by
  obtain⟨_,⟨h0,_⟩|⟨g2,c2,cur,hv2,_,hh,_,_,h2,_⟩⟩:=HROW4.out
  · cases h0
  · injection hv2 with e1 _ e3
    injection e1 with e1
    injection e1 with e1
    subst e1 e3
    exact⟨cur,(hb5.block _ (lt_of_heap hh)).trans hh,h2⟩)
 have HT5:Hid (Turn [g] w4 w5):=hid (Turn.of_below hb5)
 have HAB5:=hid ((hb5.block _ (lt_of_heap HAB4.out)).trans HAB4.out)
 have HXK:Hid (∀ w':World,Turn [g] w5 w'→w'.cell? ⟨w1.heap.size,6,none⟩=some (.slice (some ⟨g,0,none⟩) n c)):=hid (fun w' ht=>by
  rw[cell_of_heap ((ht.block _ (lt_of_heap HAB5.out) (by simp;exact hga.symm)).trans HAB5.out),HN.out];rfl)
 have hn1:n≤4398046510976:=by rw[HN.out];omega
 have hcn:=hcap.1
 clear hb5 KE HRA HRX hcap hgx hg3 hg2 hgw
 go_wp2
 go_loopw [14] (fun v14 wr=>∃ i:Nat,i≤n∧v14= .int .i64 (i:Int)∧Hid (Turn [g] w5 wr)∧Hid (∃ cur,wr.heap[g]? =some (.cells cur 123)∧cur.size=c*2)) (fun v14 _=>n - (RowKit.intOf v14).toNat)
 case atStart=>exact ⟨0,Nat.zero_le _,rfl,hid (Turn.refl _ _),HC⟩
 case round=>
  obtain⟨i,hi,rfl,HTR,HCR⟩:=hrel
  have c6:=HXK.out wr HTR.out
  by_cases hil:(i:Int) < (n:Int)
  · have hi2:i < n:=by omega
    have HCS:Hid (∃ cur,(wr.setCells g (i*2) [.string ⟨#[115,112,111,105,108,116]⟩,.string ⟨#[]⟩]).heap[g]? =some (.cells cur 123)∧cur.size=c*2):=hid (by
     obtain⟨cur,hc1,hc2⟩:=HCR.out
     exact⟨_,setCells_heap _ _ _ _ hc1,by rw[putAll_size];exact hc2⟩)
    have HTS:Hid (Turn [g] w5 (wr.setCells g (i*2) [.string ⟨#[115,112,111,105,108,116]⟩,.string ⟨#[]⟩])):=hid (HTR.out.trans (turn_setCells _ _ _ _) (fun y hy=> .inl hy))
    obtain⟨cur,hc1,hc2⟩:=HCR.out
    have hs1:=setCell_heap wr g (i*2) (.string ⟨#[115,112,111,105,108,116]⟩) _ _ hc1
    obtain⟨z0,a0⟩:∃ z0,wr.cell? ⟨g,i*2,none⟩=some z0:=⟨_,by rw[cell_of_heap hc1,Array.getElem?_eq_getElem (by omega)]⟩
    obtain⟨z1,a1⟩:∃ z1,(wr.setCell ⟨g,i*2,none⟩ (.string ⟨#[115,112,111,105,108,116]⟩)).cell? ⟨g,i*2+1,none⟩=some z1:=⟨_,by rw[cell_of_heap hs1,Array.getElem?_eq_getElem (by rw[Array.size_setIfInBounds];omega)]⟩
    have b0:wr.frozen? ⟨g,i*2,none⟩=false:=frozen_of_heap hc1
    have b1:(wr.setCell ⟨g,i*2,none⟩ (.string ⟨#[115,112,111,105,108,116]⟩)).frozen? ⟨g,i*2+1,none⟩=false:=frozen_of_heap hs1
    clear hs1 hc1 hc2
    go_wp2
    go_roundw
    case rel=>exact ⟨i+1,by omega,by go_num,HTS,HCS⟩
    case measure=>simp [RowKit.intOf];omega
  · obtain rfl:i=n:=by omega
    go_wp2
    go_ret
    refine⟨rfl,T',v',R',Dbl.mar HD.out (HT5.out.trans HTR.out (fun y hy=> .inl hy)) HGW.out HGN.out,HG4.out⟩
theorem builtAtT:Tryz.prog.built 79 []=some (zeroA.cells (.slice none 0 0)).toArray:=by kernel_rfl
def AttrsO (w:World) (p:List UInt8) (L:List TE) (e:Ending) (w':World):Prop:=
 ∃ v',e= .returned (.tuple #[.agg ((attrsA p L).cells v').toArray,.int .i64 (findE p L)])∧w'.ownsRow w.heap.size 123 2 v' (attrsA p L).xs.length (xcells (attrsA p L).xs)∧XsAt w' v' (attrsA p L).xs∧Below w.heap.size w w'
theorem attrs_any (B:Nat) (w:World) (r:Nat) (T:Tr) (p:List UInt8) (hp:p.length≤4611686018427387904) (hA:∀ e∈T.L,chkA e.at_=true) (h:TreeAt B w r T):
 Calls Tryz.prog 55 #[ptr r,.string ⟨p.toArray⟩] w (AttrsO w p T.L):=by
 obtain⟨W,hW⟩:∃ W,W=w.alloc (.cells (zeroA.cells (.slice none 0 0)).toArray AtT):=⟨_,rfl⟩
 have hb0:Below w.heap.size w W:=by rw[hW];exact(Below.refl _ _).alloc (Nat.le_refl _) _
 have hq0:W.heap[w.heap.size]? =some (.cells (zeroA.cells (.slice none 0 0)).toArray AtT):=by rw[hW];exact(MapKept.heap_alloc w _).1
 have FI:=hid (find_any B W r T p hp (h.below hb0))
 have H:=hid (h.below hb0);have HB0:=hid hb0;have HQ0:=hid hq0;have HW:=hid hW;have HA:=hid hA
 clear h hb0 hq0 hW hA
 unfold ptr at*
 go_enter Tryz.func55,Tryz.ntmps55
 go_wp2_with fail
 change Calls _ _ _ (w.alloc (.cells (zeroA.cells (.slice none 0 0)).toArray AtT)) _
 rw[←HW.out]
 refine FI.out.mono ?_
 rintro ex w1 ⟨v,rfl,hp1,hb1⟩
 obtain⟨va,vc,rfl⟩:=rowS_slice hp1.row
 have HB1:=hid hb1
 have HB:Hid (Below w.heap.size w w1):=hid (HB0.out.trans (hb1.mono HB0.out.size))
 have HA1:=hid ((hb1.block _ (lt_of_heap HQ0.out)).trans HQ0.out)
 clear FI hp1 hb1 HQ0 HW
 by_cases hf:findE p T.L=0
 case neg=>
  have hnone:findN p T.L=none:=by
   rw[findE] at hf;rw[findN]
   split
   · next h0=>
     rw[if_pos h0] at hf
     cases hgt:getT (splitL p) T.L with
     |none=>rfl
     |some e=>rw [hgt] at hf;exact absurd rfl hf
   · rfl
  have HAA:Hid (attrsA p T.L=zeroA):=hid (by rw[attrsA,hnone])
  rw[hnone]
  obtain⟨c,hc⟩:∃ c,c=findE p T.L:=⟨_,rfl⟩
  have HCF:=hid hc
  rw[←hc] at hf ⊢
  have hb:(c==0)=false:=by rw[beq_eq_false_iff_ne];exact hf
  have hb2:(c !=0)=true:=by rw[bne,hb];rfl
  have ON:=hid (atOne zeroA (v:= .slice none 0 0) rfl)
  unfold ptrO
  clear hf hnone hc
  go_wp2_with (first
   |(refine Sh.wpList_build_is rfl AtT _ rfl (zeroA.cells (.slice none 0 0)).toArray builtAtT ?_)
   |(refine Sh.wpList_store_at HA1.out rfl AtT (.tmp 4) (.tmp 18) rfl (zeroA.cells (.slice none 0 0)).toArray rfl rfl (infoAt _ _) rfl ON.out ?_
     intro w3 hq3 ht3 hs3
     have HQ3:=hid hq3;have HT3:=hid ht3
     clear hq3 ht3 hs3))
  have hld:=run_loadVar_row (P:=Tryz.prog) w3 w.heap.size _ AtT (zeroA.cells (.slice none 0 0)).toArray _ _ HQ3.out Tryz.underlying79 rfl (infoAt _ _)
  refine bodyPost_ret (v:= .tuple #[.agg (zeroA.cells (.slice none 0 0)).toArray,.int .i64 c]) ?_ rfl ?_
  · rw[results_cell_tmp (fn:=Tryz.f55) rfl]
    show((asAddr (.pointer (some ⟨w.heap.size,0,none⟩))).run Tryz.prog _).andThen _=_
    simp only[asAddr,Sem.run_pure,Result.andThen_ok,hld]
    rfl
  · refine⟨.slice none 0 0,by rw[HAA.out,HCF.out],?_,?_,HB.out.trans (HT3.out.below (by simp) HB.out.size)⟩
    · rw[HAA.out];exact rowS_nil _ _ _ _
    · rw[HAA.out];exact⟨none,0,rfl,Nat.zero_le _,fun x hx=>(by cases hx),fun hne=>absurd rfl hne⟩
 have hs0:splitE p=0:=by
  rw[findE] at hf
  by_cases h0:splitE p=0
  · exact h0
  · rw[if_neg h0] at hf;cases hf
 obtain⟨n,hgt⟩:∃ n,getT (splitL p) T.L=some n:=by
  rw[findE,if_pos hs0] at hf
  cases hg:getT (splitL p) T.L with
  |none=>rw [hg] at hf;cases hf
  |some n=>exact ⟨n,rfl⟩
 have hfn:findN p T.L=some n:=by rw[findN,if_pos hs0,hgt]
 obtain⟨hn,_⟩:=getT_nm hgt
 have HAA:Hid (attrsA p T.L=n.at_):=hid (by rw[attrsA,hfn])
 have HCF:=hid hf
 have HX16:Hid (n.at_.xs.length≤1000):=hid (by have:=fine_of_chkR (HA.out n hn);omega)
 have HT1:=hid (H.out.below HB1.out)
 have nd:=(HT1.out.node n hn).cells
 have hxs:=(HT1.out.node n hn).xs
 have HRG:Hid (w1.rangeAt n.p 2 (n.at_.cells n.xv)):=hid (fun j u hu=>by
  rw[cell_of_heap nd,List.getElem?_toArray]
  rw[Nat.add_comm 2 j]
  exact(List.getElem?_append_left (List.getElem?_eq_some_iff.1 hu).1).trans hu)
 have RO:=hid (own_own w1 n.at_ n.xv hxs HX16.out)
 rw[hfn,hf]
 unfold ptrO
 clear hf hs0 hgt hfn hn nd hxs
 go_wp2_with (first
  |(refine wpList_load_mid rfl _ _ rfl n.p 2 rfl (n.at_.cells n.xv) _ HRG.out Tryz.underlying79 rfl (infoAt n.at_ n.xv) ?_)
  |fail)
 refine RO.out.mono ?_
 rintro ex w3 ⟨v',rfl,hx3,hf3,hb3,ho3⟩
 have HA3:=hid ((hb3.block _ (lt_of_heap HA1.out)).trans HA1.out)
 have ON:=hid (atOne n.at_ (xs_one hx3))
 have HX3:=hid hx3;have HF3:=hid hf3;have HO3:=hid ho3
 have HB3:Hid (Below w.heap.size w w3):=hid (HB.out.trans (hb3.mono HB.out.size))
 have HSZ:Hid (w.heap.size < w1.heap.size):=hid (lt_of_heap HA1.out)
 clear hx3 hf3 hb3 ho3 RO HA1
 go_wp2_with (first
  |(refine Sh.wpList_store_at HA3.out rfl AtT (.tmp 4) (.tmp 24) rfl (n.at_.cells v').toArray rfl rfl (infoAt _ _) rfl ON.out ?_
    intro w4 hq4 ht4 hs4
    have HQ4:=hid hq4;have HT4:=hid ht4
    clear hq4 ht4 hs4)
  |fail)
 have hld:=run_loadVar_row (P:=Tryz.prog) w4 w.heap.size _ AtT (n.at_.cells v').toArray _ _ HQ4.out Tryz.underlying79 rfl (infoAt _ _)
 refine bodyPost_ret (v:= .tuple #[.agg (n.at_.cells v').toArray,.int .i64 0]) ?_ rfl ?_
 · rw[results_cell_tmp (fn:=Tryz.f55) rfl]
   show((asAddr (.pointer (some ⟨w.heap.size,0,none⟩))).run Tryz.prog _).andThen _=_
   simp only[asAddr,Sem.run_pure,Result.andThen_ok,hld]
   rfl
 · refine⟨v',by rw[HAA.out,HCF.out],?_,?_,HB3.out.trans (HT4.out.below (by simp) HB3.out.size)⟩
   · rw[HAA.out]
     exact row_mono (rowS_kept HO3.out (fun b hb hl=>HT4.out.block b hl (by have:=rowS_ge HO3.out b hb;have:=HSZ.out;simp;omega))) (Nat.le_of_lt HSZ.out)
   · rw[HAA.out]
     refine HX3.out.kept HT4.out.size (fun b hb=>HT4.out.block b (HX3.out.lt b hb) ?_)
     have:=HF3.out b hb;have:=HSZ.out;simp;omega
theorem findN_bare (p:List UInt8) (L:List TE):findN p (L.map bare)=(findN p L).map bare:=by
 rw[findN,findN];split
 · exact getT_bare _ _
 · rfl
theorem findE_bare (p:List UInt8) (L:List TE):findE p (L.map bare)=findE p L:=by
 rw[findE,findE,getT_bare,Option.isSome_map]
theorem statN_bare (p:List UInt8) (L:List TE):statN p (L.map bare)=statN p L:=by
 rw[statN,statN,findN_bare]
 cases findN p L with
 |none=>rfl
 |some e=>
  show statT (bare e) (L.map bare)=statT e L
  have:sizeT (bare e) (L.map bare)=sizeT e L:=by
   rw[sizeT,sizeT]
   show(if e.at_.node=1 then(e.data.length:Int) else if e.at_.node=2 then((kidsT (L.map bare) e.nm).length:Int) else if e.at_.node=3 then(e.at_.target.length:Int) else 0)=_
   rw[kids_bare]
  rw[statT,statT,this];rfl
end Go.Proofs.YtnmejonfdfdegaaGreatDoor.Sr
