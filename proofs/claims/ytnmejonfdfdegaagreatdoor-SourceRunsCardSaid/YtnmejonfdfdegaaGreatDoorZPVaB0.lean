import Derived.Test.YtnmejonfdfdegaaGreatDoorZPVaP9
import Derived.Test.YtnmejonfdfdegaaGreatDoorZPVaB2
set_option linter.unusedSimpArgs false
set_option linter.unusedVariables false
set_option maxHeartbeats 40000000
set_option maxRecDepth 100000
namespace Go.Proofs.YtnmejonfdfdegaaGreatDoor.Sr
open Go.RowKit Go.Maps Go.WideMaps Rf Go.Proofs.YtnmejonfdfdegaaGreatDoor.Nm St
open Lib (hid)
theorem va_b0 {Q:Exit→Act→World→Prop} (u0 u2 u3 u4 u6 u8 u9 yI yJ yK yL yM yN yO yP yQ yR yS yT yU yV yW yX yY yZ y0 y1 y2 y3 y4 y5 y6 y7 y8 y9 Ja Jb Jc Jd Je Jf Jg Jh Ji Jj Jk Jl Jm Jn Jo Jp Jq Jr Js Jt Ju Jv Jw Jx Jy Jz JA JB JC JD JE JF JG JH JI JJ JK JL JM JN JO JP JQ JR JS JT JU JV JW JX JY JZ J0 J1 J2 J3 J4 J5 J6 J7 J8 J9 Ya Yb Yc Yd Ye Yf Yg Yh Yi Yj Yk Yl Ym Yn Yo Yp Yq Yr Ys Yt Yu Yv Yw Yx Yy Yz YA YB YC YD YE YF YG YH YI YJ YK YL YM YN YO YP YQ YR YS YT YU YV YW YX YY YZ Y0 Y1 Y2 Y3 Y4 Y5 Y6 Y7 Y8 Y9 Xa Xb Xc Xd Xe Xf Xg Xh Xi Xj Xk Xl Xm Xn Xo Xp Xq Xr Xs Xt Xu Xv Xw Xx Xy Xz XA:Value) {q g n c gR vc C:Nat} {R:List RN} {Z:List (TE×Value)} {w wr:World}
 (hP:∀ c (a a':Act) w,a.defers=a'.defers→Q (.panic c) a w→Q (.panic c) a' w) (hn:n≤1000000) (HZ:Hid (∀ i,i < n→∃ x p,R[i]? =some x∧Z[i]? =some p∧bare p.1=x.te)) (HV:Hid (VaC w q gR vc n R)) (HBW:Hid (Below w.heap.size w wr)) (HI:Hid (VaI C wr g Z 0)) (HCW:Hid (C≤w.heap.size)) (HGE:Hid (∀ b∈g::Z.flatMap (fun p=>ob p.2),w.heap.size≤b)) (HN:Hid ((g::Z.flatMap fun p=>ob p.2).Nodup))
 (HK:∀ (t4 t7 t8 t9 ja jb jc jd je jf jg jh ji jj jk jl jm jn jo jp jq jr js jt ju jv jw jx jy jz jA jB jC jD jE jF jG jH jI jJ jK jL jM jN jO jP jQ jR jS jT jU jV jW jX jY jZ j0 j1 j2 j3 j4 j5 j6 j7 j8 j9 ya yb yc yd ye yf yg yh yi yj yk yl ym yn yo yp yq yr yt yu yv yw yx yy yz yA yB yC yD yE yF yG yH:Value) (w':World),Turn (g::Z.flatMap fun p=>ob p.2) wr w'∧Below w.heap.size w w'→Q .normal ⟨#[u0,.pointer (some ⟨q,0,none⟩),u2,u3,t4,.slice (some ⟨g,0,none⟩) n c,u6,t7,t8,t9,ja,jb,yK,yL,yM,yN,yO,yP,yQ,yR,yS,yT,yU,yV,yW,yX,yY,yZ,y0,y1,y2,y3,y4,y5,y6,y7,y8,y9,Ja,Jb,Jc,Jd,Je,Jf,Jg,Jh,Ji,Jj,Jk,Jl,Jm,Jn,Jo,Jp,jc,jd,je,jf,jg,jh,ji,jj,jk,jl,jm,jn,jo,jp,jq,jr,js,jt,ju,jv,jw,jx,jy,jz,jA,jB,jC,jD,jE,jF,jG,jH,jI,jJ,jK,jL,jM,jN,jO,jP,jQ,jR,jS,jT,jU,jV,jW,jX,jY,jZ,j0,j1,j2,j3,j4,j5,j6,j7,j8,j9,ya,yb,yc,yd,ye,yf,yg,yh,yi,yj,yk,yl,ym,yn,yo,yp,yq,yr,yt,yu,yv,yw,yx,yy,yz,yA,yB,yC,yD,yE,yF,yG,yH,YV,YW,YX,YY,YZ,Y0,Y1,Y2,Y3,Y4,Y5,Y6,Y7,Y8,Y9,Xa,Xb,Xc,Xd,Xe,Xf,Xg,Xh,Xi,Xj,Xk,Xl,Xm,Xn,Xo,Xp,Xq,Xr,Xs,Xt,Xu,Xv,Xw,Xx,Xy,Xz,XA],[]⟩ w'):
 Code.wp Tryz.prog (vaB 0) Q ⟨#[u0,.pointer (some ⟨q,0,none⟩),u2,u3,u4,.slice (some ⟨g,0,none⟩) n c,u6,.int .i64 0,u8,u9,yI,yJ,yK,yL,yM,yN,yO,yP,yQ,yR,yS,yT,yU,yV,yW,yX,yY,yZ,y0,y1,y2,y3,y4,y5,y6,y7,y8,y9,Ja,Jb,Jc,Jd,Je,Jf,Jg,Jh,Ji,Jj,Jk,Jl,Jm,Jn,Jo,Jp,Jq,Jr,Js,Jt,Ju,Jv,Jw,Jx,Jy,Jz,JA,JB,JC,JD,JE,JF,JG,JH,JI,JJ,JK,JL,JM,JN,JO,JP,JQ,JR,JS,JT,JU,JV,JW,JX,JY,JZ,J0,J1,J2,J3,J4,J5,J6,J7,J8,J9,Ya,Yb,Yc,Yd,Ye,Yf,Yg,Yh,Yi,Yj,Yk,Yl,Ym,Yn,Yo,Yp,Yq,Yr,Ys,Yt,Yu,Yv,Yw,Yx,Yy,Yz,YA,YB,YC,YD,YE,YF,YG,YH,YI,YJ,YK,YL,YM,YN,YO,YP,YQ,YR,YS,YT,YU,YV,YW,YX,YY,YZ,Y0,Y1,Y2,Y3,Y4,Y5,Y6,Y7,Y8,Y9,Xa,Xb,Xc,Xd,Xe,Xf,Xg,Xh,Xi,Xj,Xk,Xl,Xm,Xn,Xo,Xp,Xq,Xr,Xs,Xt,Xu,Xv,Xw,Xx,Xy,Xz,XA],[]⟩ wr:=by
 have HKH:=hid HK
 clear HK
 conv=>arg 2;whnf
 have hn1:n≤9223372036854775807:=by omega
 go_wp2
 go_loopw [7] (fun v7 ws=>∃ i:Nat,i≤n∧v7= .int .i64 (i:Int)∧Hid (VaI C ws g Z i)∧Hid (Turn (g::Z.flatMap fun p=>ob p.2) wr ws)∧Hid (Below w.heap.size w ws)) (fun v7 _=>n - (RowKit.intOf v7).toNat)
 case atStart=>exact ⟨0,Nat.zero_le _,rfl,HI,hid (Turn.refl _ _),HBW⟩
 case round=>
  rename World=>ws
  clear HI HBW
  obtain⟨i,hi,rfl,HI,HT,HBW⟩:=hrel
  have k0:=HV.out.book ws HBW.out
  by_cases hil:(i:Int) < (n:Int)
  · have hi2:i < n:=by omega
    have h0:(0:Int)≤(i:Int):=by omega
    obtain⟨x,p,hx,hp,hb⟩:=HZ.out i hi2
    obtain⟨hrg,hxs⟩:=HV.out.node ws HBW.out i x hx
    have hxl:∀ z∈x.at_.xs,z.1.length≤maxLen∧z.2.length≤maxLen:=by obtain⟨_,_,_,_,h2,_⟩:=hxs;exact h2
    obtain⟨hr1,hr2,hr3,hr4⟩:=HI.out.get hp hb hxl
    have ONX:=hid (HV.out.one x (List.mem_of_getElem? hx))
    have H16:Hid (x.at_.xs.length≤16):=hid (HV.out.small x (List.mem_of_getElem? hx))
    have HPA:Hid (∀ w',Below w.heap.size w w'→Calls Tryz.prog 42 #[rnV x] w' fun e w2=>e= .returned (.string ⟨(pathN x.nm).toArray⟩)∧Below w'.heap.size w' w2):=hid (fun w' hb=>HV.out.path w' hb x (List.mem_of_getElem? hx))
    have HRG:=hid hrg;have HXS:=hid hxs;have HR1:=hid hr1;have HR2:=hid hr2;have HR3:=hid hr3;have HR4:=hid hr4;have HP0:=hid hp
    obtain⟨xa,xc,hxv⟩:=rowS_slice hr3
    clear hx hp hb hrg hxs hxl hr1 hr2 hr3 hr4
    go_upto_region 9 with(first
     |(refine wpList_load_mid rfl _ _ rfl gR (i*11) rfl x.cells _ HRG.out Tryz.underlying86 rfl (infoRnS x) ?_)
     |(refine Sh.wpList_store_new rfl rfl RnT (.tmp 8) (.tmp 66) rfl x.cells.toArray rfl rfl (infoRnS x) rfl ONX.out ?_
       intro w2 hq2 hb2 hs2
       have HQ2:=hid hq2;have HB2:=hid hb2
       clear hq2 hb2 hs2)
     |fail)
    have HVS:Hid (VaS w2 g i ws.heap.size x p.2):=hid ⟨fun j u hu=>(HB2.out.cell (p:=⟨g,i*11+j,none⟩) HR4.out).trans (HR1.out j u hu),HQ2.out,HR2.out.kept HB2.out.size (fun b hx=>HB2.out.block b (HR2.out.lt b hx)),HXS.out.kept HB2.out.size (fun b hx=>HB2.out.block b (HXS.out.lt b hx)),Nat.lt_of_lt_of_le HR4.out HB2.out.size⟩
    have HBW2:Hid (Below w.heap.size w w2):=hid (HBW.out.trans (HB2.out.mono HBW.out.size))
    refine va_p9 _ _ _ _ _ _ _ _ _ _ _ _ _ _ _ _ _ _ _ _ _ _ _ _ _ _ _ _ _ _ _ _ _ _ _ _ _ _ _ _ _ _ _ _ _ _ _ _ _ _ _ _ _ _ _ _ _ _ _ _ _ _ _ _ _ _ _ _ _ _ _ _ _ _ _ _ _ _ _ _ _ _ _ _ _ _ _ _ _ _ _ _ _ _ _ _ _ _ _ _ _ _ _ _ _ _ _ _ _ _ _ _ _ _ _ _ _ _ _ _ _ _ _ _ _ _ _ _ _ _ _ _ _ _ _ _ _ _ _ _ _ _ _ _ _ _ _ _ _ _ _ _ _ _ _ _ _ _ _ _ _ _ _ _ _ _ _ _ _ _ _ _ _ _ _ _ _ _ _ _ _ _ _ _ _ _ (by first|exact hP|(intro c a a_ w hd h;exact hP _ _ _ _ hd h)) hi2 (by omega) HVS (hid (fun w' hb=>HPA.out w' (HBW2.out.trans (hb.mono HBW2.out.size)))) ?_
    intro jp jq jr js jt ju jv jw jx jy jz jA jB jC jD jE jF jG jH jI jJ jK jL jM jN jO jP jQ jR jS jT jU jV jW jX jY jZ j0 j1 j2 j3 j4 j5 j6 j7 j8 j9 ya w4 h4
    obtain⟨hv4,hb4⟩:=h4
    have hc7:=hv4.row 7 p.2 rfl
    rw[hxv] at hc7
    have c7:w4.cell? ⟨g,i*11+7,none⟩=some (.slice xa x.at_.xs.length xc):=hc7
    have c16:w4.cell? ⟨g,i*11+1+6,none⟩=some (.slice xa x.at_.xs.length xc):=hc7
    have HK4:Hid (Below ws.heap.size ws w4):=hid (HB2.out.trans (hb4.mono HB2.out.size))
    have HBW4:Hid (Below w.heap.size w w4):=hid (HBW.out.trans (HK4.out.mono HBW.out.size))
    obtain⟨m,hm⟩:∃ m,m=x.at_.xs.length:=⟨_,rfl⟩
    have HO4:Hid (∃ ys,w4.ownsRow C 123 2 (.slice xa m xc) m ys):=hid ⟨_,by
     have h:=rowS_kept HR3.out (fun b _ hl=>HK4.out.block b hl)
     rw[hxv,←hm] at h;exact h⟩
    have hm16:m≤16:=by rw[hm];exact H16.out
    have HOBP:Hid (ob (.slice xa m xc)=ob p.2):=hid (by rw[hxv,hm])
    rw[←hm] at c7 c16
    clear hv4 hb4 hc7 hxv hm
    go_upto_block 2 with(fail)
    refine va_b2 _ _ _ _ _ _ _ _ _ _ _ _ _ _ _ _ _ _ _ _ _ _ _ _ _ _ _ _ _ _ _ _ _ _ _ _ _ _ _ _ _ _ _ _ _ _ _ _ _ _ _ _ _ _ _ _ _ _ _ _ _ _ _ _ _ _ _ _ _ _ _ _ _ _ _ _ _ _ _ _ _ _ _ _ _ _ _ _ _ _ _ _ _ _ _ _ _ _ _ _ _ _ _ _ _ _ _ _ _ _ _ _ _ _ _ _ _ _ _ _ _ _ _ _ _ _ _ _ _ _ _ _ _ _ _ _ _ _ _ _ _ _ _ _ _ _ _ _ _ _ _ _ _ _ _ _ _ _ _ _ _ _ _ _ _ _ _ _ _ _ _ _ _ _ _ _ _ _ _ _ _ _ _ _ _ _ _ (by first|exact hP|(intro c a a_ w hd h;exact hP _ _ _ _ hd h)) (by omega) HO4 ?_
    intro ja yi yj yk yl ym yn yo yp yq yr w5 h5
    have HO5:=hid h5.1;have HT5:=hid h5.2
    have HC5:Hid (C≤w5.heap.size):=hid (Nat.le_trans HCW.out (Nat.le_trans HBW4.out.size HT5.out.size))
    clear h5 c7 c16
    go_upto_block 4 with(fail)
    refine va_b4 _ _ _ _ _ _ _ _ _ _ _ _ _ _ _ _ _ _ _ _ _ _ _ _ _ _ _ _ _ _ _ _ _ _ _ _ _ _ _ _ _ _ _ _ _ _ _ _ _ _ _ _ _ _ _ _ _ _ _ _ _ _ _ _ _ _ _ _ _ _ _ _ _ _ _ _ _ _ _ _ _ _ _ _ _ _ _ _ _ _ _ _ _ _ _ _ _ _ _ _ _ _ _ _ _ _ _ _ _ _ _ _ _ _ _ _ _ _ _ _ _ _ _ _ _ _ _ _ _ _ _ _ _ _ _ _ _ _ _ _ _ _ _ _ _ _ _ _ _ _ _ _ _ _ _ _ _ _ _ _ _ _ _ _ _ _ _ _ _ _ _ _ _ _ _ _ _ _ _ _ _ _ _ _ _ _ _ (by first|exact hP|(intro c a a_ w hd h;exact hP _ _ _ _ hd h)) (by omega) HC5.out HO5 ?_
    intro t9 jb yt yu yv yw yx yy yz yA w6 h6
    obtain⟨⟨aa,cc,rfl⟩,h6⟩:=h6
    have HT6:Hid (Turn (ob p.2) ws w6):=hid (((Turn.of_below HK4.out).trans (HOBP.out ▸ HT5.out) (fun y hy=> .inl hy)).trans (HOBP.out ▸ h6) (fun y hy=> .inl hy))
    have hge:(((m+20:Nat):Int) < 20)=False:=eq_false (by omega)
    obtain⟨cur,hq6,_⟩:=HI.out.step (u:= .string ⟨#[115,112,111,105,108,116]⟩) HP0.out HN.out HT6.out
    have HI6:=hid (HI.out.step (u:= .string ⟨#[115,112,111,105,108,116]⟩) HP0.out HN.out HT6.out)
    have hgp:g ∉ ob p.2:=fun hb=>(List.nodup_cons.1 HN.out).1 (List.mem_flatMap.2 ⟨p,List.mem_of_getElem? HP0.out,hb⟩)
    obtain⟨cur0,hq0,hc0⟩:=HI.out
    have hr0:=(hc0 i p (Nat.le_refl _) HP0.out).1 0 _ rfl
    have hg6:w6.heap[g]? =some (.cells cur0 VnT):=(HT6.out.block _ (lt_of_heap hq0) hgp).trans hq0
    have s0:w6.cell? ⟨g,i*11,none⟩=some (.string ⟨(pathN p.1.nm).toArray⟩):=(World.cell?_of_block (a:=⟨g,i*11,none⟩) (HT6.out.block _ (lt_of_heap hq0) hgp)).trans hr0
    have f0:w6.frozen? ⟨g,i*11,none⟩=false:=frozen_of_heap hg6
    have HT7:Hid (Turn (g::Z.flatMap fun p=>ob p.2) wr (w6.setCell ⟨g,i*11,none⟩ (.string ⟨#[115,112,111,105,108,116]⟩))):=hid ((HT.out.trans HT6.out (fun y hy=> .inl (List.mem_cons_of_mem _ (List.mem_flatMap.2 ⟨p,List.mem_of_getElem? HP0.out,hy⟩)))).setCell (p:=⟨g,i*11,none⟩) (.inl (List.mem_cons_self ..)) _)
    have HB7:Hid (Below w.heap.size w (w6.setCell ⟨g,i*11,none⟩ (.string ⟨#[115,112,111,105,108,116]⟩))):=hid ((HBW.out.trans (HT6.out.below (fun b hb=>HGE.out b (List.mem_cons_of_mem _ (List.mem_flatMap.2 ⟨p,List.mem_of_getElem? HP0.out,hb⟩))) HBW.out.size)).setCell (p:=⟨g,i*11,none⟩) (HGE.out g (List.mem_cons_self ..)) _)
    clear h6 hq6 hgp hq0 hc0 hr0 hg6 k0
    go_wp2
    go_roundw
    case rel=>exact ⟨i+1,by omega,by go_num,HI6,HT7,HB7⟩
    case measure=>simp [RowKit.intOf];omega
  · go_wp2
    exact HKH.out _ _ _ _ _ _ _ _ _ _ _ _ _ _ _ _ _ _ _ _ _ _ _ _ _ _ _ _ _ _ _ _ _ _ _ _ _ _ _ _ _ _ _ _ _ _ _ _ _ _ _ _ _ _ _ _ _ _ _ _ _ _ _ _ _ _ _ _ _ _ _ _ _ _ _ _ _ _ _ _ _ _ _ _ _ _ _ _ _ _ _ _ _ _ _ _ _ _ _ ws ⟨HT.out,HBW.out⟩
end Go.Proofs.YtnmejonfdfdegaaGreatDoor.Sr
