import Derived.Test.YtnmejonfdfdegaaGreatDoorZPVaP27
set_option linter.unusedSimpArgs false
set_option linter.unusedVariables false
set_option maxHeartbeats 40000000
set_option maxRecDepth 100000
namespace Go.Proofs.YtnmejonfdfdegaaGreatDoor.Sr
open Go.RowKit Go.Maps Go.WideMaps Rf Go.Proofs.YtnmejonfdfdegaaGreatDoor.Nm St
open Lib (hid)
theorem va_b6 {Q:Exit→Act→World→Prop} (u0 u2 u3 u4 u5 u7 u8 u9 jS jT jU jV jW jX jY jZ j0 j1 j2 j3 j4 j5 j6 j7 j8 j9 ya yb yc yd ye yf yg yh yi yj yk yl ym yn yo yp yq yr ys yt yu yv yw yx yy yz yA yB yC yD yE yF yG yH yI yJ yK yL yM yN yO yP yQ yR yS yT yU yV yW yX yY yZ y0 y1 y2 y3 y4 y5 y6 y7 y8 y9 Ja Jb Jc Jd Je Jf Jg Jh Ji Jj Jk Jl Jm Jn Jo Jp Jq Jr Js Jt Ju Jv Jw Jx Jy Jz JA JB JC JD JE JF JG JH JI JJ JK JL JM JN JO JP JQ JR JS JT JU JV JW JX JY JZ J0 J1 J2 J3 J4 J5 J6 J7 J8 J9 Ya Yb Yc Yd Ye Yf Yg Yh Yi Yj Yk Yl Ym Yn Yo Yp Yq Yr Ys Yt Yu Yv Yw Yx Yy Yz YA YB YC YD YE YF YG YH YI YJ:Value) {q g n c gR vc C:Nat} {R:List RN} {Z:List (TE×Value)} {w wr:World}
 (hP:∀ c (a a':Act) w,a.defers=a'.defers→Q (.panic c) a w→Q (.panic c) a' w) (hn:n≤1000000) (HZ:Hid (∀ i,i < n→∃ x p,R[i]? =some x∧Z[i]? =some p∧bare p.1=x.te)) (HV:Hid (VaC w q gR vc n R)) (HBW:Hid (Below w.heap.size w wr)) (HI:Hid (VaI C wr g Z 0))
 (HK:∀ (t4 ja jb jc jd je jf jg jh ji jj jk jl jm jn jo jp jq jr js jt ju jv jw jx jy jz jA jB jC jD jE jF jG jH jI jJ jK jL jM jN jO jP jQ jR:Value) (w':World),Below wr.heap.size wr w'→Q .normal ⟨#[u0,.pointer (some ⟨q,0,none⟩),u2,u3,t4,u5,.slice (some ⟨g,0,none⟩) n c,u7,u8,u9,jS,jT,ja,jb,jV,jW,jX,jY,jZ,j0,j1,j2,j3,j4,j5,j6,j7,j8,j9,ya,yb,yc,yd,ye,yf,yg,yh,yi,yj,yk,yl,ym,yn,yo,yp,yq,yr,ys,yt,yu,yv,yw,yx,yy,yz,yA,yB,yC,yD,yE,yF,yG,yH,yI,yJ,yK,yL,yM,yN,yO,yP,yQ,yR,yS,yT,yU,yV,yW,yX,yY,yZ,y0,y1,y2,y3,y4,y5,y6,y7,y8,y9,Ja,Jb,Jc,Jd,Je,Jf,Jg,Jh,Ji,Jj,Jk,Jl,Jm,Jn,Jo,Jp,Jq,Jr,Js,Jt,Ju,Jv,Jw,Jx,Jy,Jz,JA,JB,JC,JD,JE,JF,JG,JH,JI,JJ,JK,JL,JM,JN,JO,JP,JQ,JR,JS,JT,JU,JV,JW,JX,JY,JZ,J0,J1,J2,J3,jc,jd,je,jf,jg,jh,ji,jj,jk,jl,jm,jn,jo,jp,jq,jr,js,jt,ju,jv,jw,jx,jy,jz,jA,jB,jC,jD,jE,jF,jG,jH,jI,jJ,jK,jL,jM,jN,jO,jP,jQ,jR],[]⟩ w'):
 Code.wp Tryz.prog (vaB 6) Q ⟨#[u0,.pointer (some ⟨q,0,none⟩),u2,u3,u4,u5,.slice (some ⟨g,0,none⟩) n c,u7,u8,u9,jS,jT,.int .i64 0,jU,jV,jW,jX,jY,jZ,j0,j1,j2,j3,j4,j5,j6,j7,j8,j9,ya,yb,yc,yd,ye,yf,yg,yh,yi,yj,yk,yl,ym,yn,yo,yp,yq,yr,ys,yt,yu,yv,yw,yx,yy,yz,yA,yB,yC,yD,yE,yF,yG,yH,yI,yJ,yK,yL,yM,yN,yO,yP,yQ,yR,yS,yT,yU,yV,yW,yX,yY,yZ,y0,y1,y2,y3,y4,y5,y6,y7,y8,y9,Ja,Jb,Jc,Jd,Je,Jf,Jg,Jh,Ji,Jj,Jk,Jl,Jm,Jn,Jo,Jp,Jq,Jr,Js,Jt,Ju,Jv,Jw,Jx,Jy,Jz,JA,JB,JC,JD,JE,JF,JG,JH,JI,JJ,JK,JL,JM,JN,JO,JP,JQ,JR,JS,JT,JU,JV,JW,JX,JY,JZ,J0,J1,J2,J3,J4,J5,J6,J7,J8,J9,Ya,Yb,Yc,Yd,Ye,Yf,Yg,Yh,Yi,Yj,Yk,Yl,Ym,Yn,Yo,Yp,Yq,Yr,Ys,Yt,Yu,Yv,Yw,Yx,Yy,Yz,YA,YB,YC,YD,YE,YF,YG,YH,YI,YJ],[]⟩ wr:=by
 have HKH:=hid HK
 clear HK
 conv=>arg 2;whnf
 have hn1:n≤9223372036854775807:=by omega
 go_wp2
 go_loopw [12] (fun v12 ws=>∃ i:Nat,i≤n∧v12= .int .i64 (i:Int)∧Hid (Below wr.heap.size wr ws)) (fun v12 _=>n - (RowKit.intOf v12).toNat)
 case atStart=>exact ⟨0,Nat.zero_le _,rfl,hid (Below.refl _ _)⟩
 case round=>
  rename World=>ws
  obtain⟨i,hi,rfl,HB⟩:=hrel
  have HBS:Hid (Below w.heap.size w ws):=hid (HBW.out.trans (HB.out.mono HBW.out.size))
  have k0:=HV.out.book ws HBS.out
  by_cases hil:(i:Int) < (n:Int)
  · have hi2:i < n:=by omega
    have h0:(0:Int)≤(i:Int):=by omega
    obtain⟨x,p,hx,hp,hb⟩:=HZ.out i hi2
    obtain⟨hrg,hxs⟩:=HV.out.node ws HBS.out i x hx
    have hxl:∀ z∈x.at_.xs,z.1.length≤maxLen∧z.2.length≤maxLen:=by obtain⟨_,_,_,_,h2,_⟩:=hxs;exact h2
    obtain⟨hr1,hr2,_,hr4⟩:=((HI.out.below HB.out).from i).get hp hb hxl
    have ONX:=hid (HV.out.one x (List.mem_of_getElem? hx))
    have HPA:Hid (∀ w',Below w.heap.size w w'→Calls Tryz.prog 42 #[rnV x] w' fun e w2=>e= .returned (.string ⟨(pathN x.nm).toArray⟩)∧Below w'.heap.size w' w2):=hid (fun w' hb=>HV.out.path w' hb x (List.mem_of_getElem? hx))
    have HRG:=hid hrg;have HXS:=hid hxs;have HR1:=hid hr1;have HR2:=hid hr2;have HR4:=hid hr4
    clear hx hp hb hrg hxs hxl hr1 hr2 hr4
    go_upto_region 27 with(first
     |(refine wpList_load_mid rfl _ _ rfl gR (i*11) rfl x.cells _ HRG.out Tryz.underlying86 rfl (infoRnS x) ?_)
     |(refine Sh.wpList_store_new rfl rfl RnT (.tmp 13) (.tmp 159) rfl x.cells.toArray rfl rfl (infoRnS x) rfl ONX.out ?_
       intro w2 hq2 hb2 hs2
       have HQ2:=hid hq2;have HB2:=hid hb2
       clear hq2 hb2 hs2)
     |fail)
    have HVS:Hid (VaS w2 g i ws.heap.size x p.2):=hid ⟨fun j u hu=>(HB2.out.cell (p:=⟨g,i*11+j,none⟩) HR4.out).trans (HR1.out j u hu),HQ2.out,HR2.out.kept HB2.out.size (fun b hx=>HB2.out.block b (HR2.out.lt b hx)),HXS.out.kept HB2.out.size (fun b hx=>HB2.out.block b (HXS.out.lt b hx)),Nat.lt_of_lt_of_le HR4.out HB2.out.size⟩
    have HBW2:Hid (Below w.heap.size w w2):=hid (HBS.out.trans (HB2.out.mono HBS.out.size))
    refine va_p27 _ _ _ _ _ _ _ _ _ _ _ _ _ _ _ _ _ _ _ _ _ _ _ _ _ _ _ _ _ _ _ _ _ _ _ _ _ _ _ _ _ _ _ _ _ _ _ _ _ _ _ _ _ _ _ _ _ _ _ _ _ _ _ _ _ _ _ _ _ _ _ _ _ _ _ _ _ _ _ _ _ _ _ _ _ _ _ _ _ _ _ _ _ _ _ _ _ _ _ _ _ _ _ _ _ _ _ _ _ _ _ _ _ _ _ _ _ _ _ _ _ _ _ _ _ _ _ _ _ _ _ _ _ _ _ _ _ _ _ _ _ _ _ _ _ _ _ _ _ _ _ _ _ _ _ _ _ _ _ _ _ _ _ _ _ _ _ _ _ _ _ _ _ _ _ _ _ _ _ _ _ _ _ _ _ _ (by first|exact hP|(intro c a a_ w hd h;exact hP _ _ _ _ hd h)) hi2 (by omega) HVS (hid (fun w' hb=>HPA.out w' (HBW2.out.trans (hb.mono HBW2.out.size)))) ?_
    intro jp jq jr js jt ju jv jw jx jy jz jA jB jC jD jE jF jG jH jI jJ jK jL jM jN jO jP jQ w4 h4
    have HB4:Hid (Below wr.heap.size wr w4):=hid (HB.out.trans ((HB2.out.trans (h4.2.mono HB2.out.size)).mono HB.out.size))
    clear h4 k0
    go_wp2
    go_roundw
    case rel=>exact ⟨i+1,by omega,by go_num,HB4⟩
    case measure=>simp [RowKit.intOf];omega
  · go_wp2
    exact HKH.out _ _ _ _ _ _ _ _ _ _ _ _ _ _ _ _ _ _ _ _ _ _ _ _ _ _ _ _ _ _ _ _ _ _ _ _ _ _ _ _ _ _ _ _ _ ws HB.out
end Go.Proofs.YtnmejonfdfdegaaGreatDoor.Sr
