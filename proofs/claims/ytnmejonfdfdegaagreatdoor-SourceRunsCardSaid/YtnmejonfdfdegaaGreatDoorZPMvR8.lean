import Derived.Test.YtnmejonfdfdegaaGreatDoorZPMvB0
import Derived.Test.YtnmejonfdfdegaaGreatDoorZPMvB4
import Derived.Test.YtnmejonfdfdegaaGreatDoorZPSrMove
import Derived.Test.YtnmejonfdfdegaaGreatDoorZPSrXattr
set_option linter.unusedSimpArgs false
set_option linter.unusedVariables false
set_option maxHeartbeats 400000000
set_option maxRecDepth 100000
namespace Go.Proofs.YtnmejonfdfdegaaGreatDoor.Sr
open Go.RowKit Go.Maps Go.WideMaps Rf Go.Proofs.YtnmejonfdfdegaaGreatDoor.Nm St
open Lib (hid)
def intoB (a b:PN):Bool:=decide (a.length=0)||(decide (a.length < b.length) && a.isPrefixOf b)
def fullB (s:Bool) (k:Nat):Bool:= !s && decide (256≤k)
theorem mv_r8 {Q:Exit→Act→World→Prop} (u0 u1 u2 u3 u4 u5 u6 u8 jM jN jO jP jQ jR jS jT jU jV jW jX jY jZ j0 j1 j2 j3 j4 j5 j6 j7 j8 j9 ya yb yc yd ye yf yg yh yi yj yk yl ym yn yo yp yq yr ys yt yu yv yw yx yy yz yA yB yC yD yE yF yG yH yI yJ yK yL yM yN yO yP yQ yR yS yT yU yV yW yX yY yZ y0 y1 y2 y3 y4 y5 y6 y7 y8 y9 Ja Jb Jc Jd Je Jf Jg Jh Ji Jj Jk Jl Jm Jn Jo Jp Jq Jr Js Jt Ju Jv Jw Jx Jy Jz JA JB JC JD JE JF JG JH JI JJ JK JL JM JN JO JP JQ JR JS JT JU JV JW JX JY JZ J0 J1 J2 J3 J4 J5 J6 J7 J8 J9 Ya Yb Yc Yd Ye Yf Yg Yh Yi Yj Yk Yl Ym Yn Yo Yp Yq Yr Ys Yt Yu Yv Yw Yx Yy Yz YA YB YC YD YE YF YG YH YI YJ YK YL YM YN YO YP YQ YR YS YT YU YV YW YX YY YZ Y0 Y1 Y2 Y3 Y4 Y5 Y6 Y7 Y8 Y9 Xa Xb Xc Xd Xe Xf Xg:Value) {ac bc:Nat} {aa ba:Option Addr} {a b:PN} {w:World}
 (hP:∀ c (a a':Act) w,a.defers=a'.defers→Q (.panic c) a w→Q (.panic c) a' w) (hal:a.length≤1000) (hbl:b.length≤1000) (HA:Hid (St.StrsAt w (.slice aa a.length ac) a)) (HBS:Hid (St.StrsAt w (.slice ba b.length bc) b))
 (HK:∀ (ja jb jc jd je jf jg jh ji jj jk jl jm jn:Value) (w':World),Below w.heap.size w w'→Q .normal ⟨#[u0,u1,u2,u3,u4,u5,u6,.slice aa a.length ac,u8,.slice ba b.length bc,jM,jN,jO,jP,jQ,jR,jS,jT,jU,jV,jW,jX,jY,jZ,j0,j1,j2,j3,j4,j5,j6,j7,j8,j9,ya,yb,yc,yd,ye,yf,yg,yh,yi,ja,jb,jc,jd,je,jf,jg,jh,ji,jj,jk,jl,jm,jn,.bool (intoB a b),yy,yz,yA,yB,yC,yD,yE,yF,yG,yH,yI,yJ,yK,yL,yM,yN,yO,yP,yQ,yR,yS,yT,yU,yV,yW,yX,yY,yZ,y0,y1,y2,y3,y4,y5,y6,y7,y8,y9,Ja,Jb,Jc,Jd,Je,Jf,Jg,Jh,Ji,Jj,Jk,Jl,Jm,Jn,Jo,Jp,Jq,Jr,Js,Jt,Ju,Jv,Jw,Jx,Jy,Jz,JA,JB,JC,JD,JE,JF,JG,JH,JI,JJ,JK,JL,JM,JN,JO,JP,JQ,JR,JS,JT,JU,JV,JW,JX,JY,JZ,J0,J1,J2,J3,J4,J5,J6,J7,J8,J9,Ya,Yb,Yc,Yd,Ye,Yf,Yg,Yh,Yi,Yj,Yk,Yl,Ym,Yn,Yo,Yp,Yq,Yr,Ys,Yt,Yu,Yv,Yw,Yx,Yy,Yz,YA,YB,YC,YD,YE,YF,YG,YH,YI,YJ,YK,YL,YM,YN,YO,YP,YQ,YR,YS,YT,YU,YV,YW,YX,YY,YZ,Y0,Y1,Y2,Y3,Y4,Y5,Y6,Y7,Y8,Y9,Xa,Xb,Xc,Xd,Xe,Xf,Xg],[]⟩ w'):
 Code.wp Tryz.prog (mvR 8) Q ⟨#[u0,u1,u2,u3,u4,u5,u6,.slice aa a.length ac,u8,.slice ba b.length bc,jM,jN,jO,jP,jQ,jR,jS,jT,jU,jV,jW,jX,jY,jZ,j0,j1,j2,j3,j4,j5,j6,j7,j8,j9,ya,yb,yc,yd,ye,yf,yg,yh,yi,yj,yk,yl,ym,yn,yo,yp,yq,yr,ys,yt,yu,yv,yw,yx,yy,yz,yA,yB,yC,yD,yE,yF,yG,yH,yI,yJ,yK,yL,yM,yN,yO,yP,yQ,yR,yS,yT,yU,yV,yW,yX,yY,yZ,y0,y1,y2,y3,y4,y5,y6,y7,y8,y9,Ja,Jb,Jc,Jd,Je,Jf,Jg,Jh,Ji,Jj,Jk,Jl,Jm,Jn,Jo,Jp,Jq,Jr,Js,Jt,Ju,Jv,Jw,Jx,Jy,Jz,JA,JB,JC,JD,JE,JF,JG,JH,JI,JJ,JK,JL,JM,JN,JO,JP,JQ,JR,JS,JT,JU,JV,JW,JX,JY,JZ,J0,J1,J2,J3,J4,J5,J6,J7,J8,J9,Ya,Yb,Yc,Yd,Ye,Yf,Yg,Yh,Yi,Yj,Yk,Yl,Ym,Yn,Yo,Yp,Yq,Yr,Ys,Yt,Yu,Yv,Yw,Yx,Yy,Yz,YA,YB,YC,YD,YE,YF,YG,YH,YI,YJ,YK,YL,YM,YN,YO,YP,YQ,YR,YS,YT,YU,YV,YW,YX,YY,YZ,Y0,Y1,Y2,Y3,Y4,Y5,Y6,Y7,Y8,Y9,Xa,Xb,Xc,Xd,Xe,Xf,Xg],[]⟩ w:=by
 have HKH:=hid HK
 clear HK
 conv=>arg 2;whnf
 have hb1:a.length≤1000:=hal
 by_cases ha0:a.length=0
 · have q0:((a.length:Int)==0)=true:=by rw[ha0];rfl
   have hR:Hid (intoB a b=true):=hid (by rw[intoB,ha0];rfl)
   rw[hR.out] at HKH
   clear ha0
   go_wp2
   exact HKH.out _ _ _ _ _ _ _ _ _ _ _ _ _ _ _ (Below.refl _ _)
 have q0:((a.length:Int)==0)=false:=by rw[beq_eq_false_iff_ne];omega
 by_cases hl:a.length < b.length
 case neg=>
  have hl1:¬ (a.length:Int) < (b.length:Int):=by omega
  have hR:Hid (intoB a b=false):=hid (by rw[intoB,decide_eq_false ha0,decide_eq_false hl];rfl)
  rw[hR.out] at HKH
  clear ha0 hl
  go_wp2
  exact HKH.out _ _ _ _ _ _ _ _ _ _ _ _ _ _ _ (Below.refl _ _)
 have hl1:(a.length:Int) < (b.length:Int):=by omega
 have CB:=begins_any w _ _ a b HA.out HBS.out
 have hR:Hid (intoB a b=a.isPrefixOf b):=hid (by rw[intoB,decide_eq_false ha0,decide_eq_true hl];rfl)
 rw[hR.out] at HKH
 clear ha0 hl
 cases hpre:a.isPrefixOf b with
 |true=>
  rw[hpre] at CB HKH
  have CB:=hid CB
  clear hpre
  go_wp2_with fail
  refine CB.out.mono ?_
  rintro ez w5 ⟨rfl,hb5⟩
  have HB5:=hid hb5
  clear hb5 CB
  go_wp2
  exact HKH.out _ _ _ _ _ _ _ _ _ _ _ _ _ _ _ HB5.out
 |false=>
  rw[hpre] at CB HKH
  have CB:=hid CB
  clear hpre
  go_wp2_with fail
  refine CB.out.mono ?_
  rintro ez w5 ⟨rfl,hb5⟩
  have HB5:=hid hb5
  clear hb5 CB
  go_wp2
  exact HKH.out _ _ _ _ _ _ _ _ _ _ _ _ _ _ _ HB5.out
theorem mv_r22 {Q:Exit→Act→World→Prop} (u0 u1 u2 u3 u4 u5 u6 u7 u8 u9 jM jN jO jP jS jT jU jV jW jX jY jZ j0 j1 j2 j3 j4 j5 j6 j7 j8 j9 ya yb yc yd ye yf yg yh yi yj yk yl ym yn yo yp yq yr ys yt yu yv yw yx yy yz yA yB yC yD yE yF yG yH yI yJ yK yL yM yN yO yP yQ yR yS yT yU yV yW yX yY yZ y0 y1 y2 y3 y4 y5 y6 y7 y8 y9 Ja Jb Jc Jd Je Jf Jg Jh Ji Jj Jk Jl Jm Jn Jo Jp Jq Jr Js Jt Ju Jv Jw Jx Jy Jz JA JB JC JD JE JF JG JH JI JJ JK JL JM JN JO JP JQ JR JS JT JU JV JW JX JY JZ J0 J1 J2 J3 J4 J5 J6 J7 J8 J9 Ya Yb Yc Yd Ye Yf Yg Yh Yi Yj Yk Yl Ym Yn Yo Yp Yq Yr Ys Yt Yu Yv Yw Yx Yy Yz YA YB YC YD YE YF YG YH YI YJ YK YL YM YN YO YP YQ YR YS YT YU YV YW YX YY YZ Y0 Y1 Y2 Y3 Y4 Y5 Y6 Y7 Y8 Y9 Xa Xb Xc Xd Xe Xf Xg:Value) {ac bc:Nat} {aa ba:Option Addr} {a b:PN} {w:World}
 (hP:∀ c (a a':Act) w,a.defers=a'.defers→Q (.panic c) a w→Q (.panic c) a' w) (hal:a.length≤1000) (hbl:b.length≤1000) (HA:Hid (St.StrsAt w (.slice aa a.length ac) a)) (HBS:Hid (St.StrsAt w (.slice ba b.length bc) b))
 (HK:∀ (jo jp jq jr js jt ju jv jw jx:Value) (w':World),Below w.heap.size w w'→Q .normal ⟨#[u0,u1,u2,u3,u4,u5,u6,u7,u8,u9,jM,jN,jO,jP,.slice aa a.length ac,.slice ba b.length bc,.bool (decide (b=a)),jT,jU,jV,jW,jX,jY,jZ,j0,j1,j2,j3,j4,j5,j6,j7,j8,j9,ya,yb,yc,yd,ye,yf,yg,yh,yi,yj,yk,yl,ym,yn,yo,yp,yq,yr,ys,yt,yu,yv,yw,yx,yy,yz,yA,yB,yC,yD,yE,yF,yG,yH,yI,yJ,yK,yL,yM,yN,yO,yP,yQ,yR,yS,yT,yU,yV,yW,yX,yY,yZ,y0,y1,y2,y3,y4,y5,y6,y7,y8,y9,Ja,Jb,Jc,Jd,Je,Jf,Jg,Jh,Ji,Jj,Jk,Jl,Jm,Jn,Jo,Jp,Jq,Jr,Js,jo,jp,jq,jr,js,jt,ju,jv,jw,jx,JD,JE,JF,JG,JH,JI,JJ,JK,JL,JM,JN,JO,JP,JQ,JR,JS,JT,JU,JV,JW,JX,JY,JZ,J0,J1,J2,J3,J4,J5,J6,J7,J8,J9,Ya,Yb,Yc,Yd,Ye,Yf,Yg,Yh,Yi,Yj,Yk,Yl,Ym,Yn,Yo,Yp,Yq,Yr,Ys,Yt,Yu,Yv,Yw,Yx,Yy,Yz,YA,YB,YC,YD,YE,YF,YG,YH,YI,YJ,YK,YL,YM,YN,YO,YP,YQ,YR,YS,YT,YU,YV,YW,YX,YY,YZ,Y0,Y1,Y2,Y3,Y4,Y5,Y6,Y7,Y8,Y9,Xa,Xb,Xc,Xd,Xe,Xf,Xg],[]⟩ w'):
 Code.wp Tryz.prog (mvR 22) Q ⟨#[u0,u1,u2,u3,u4,u5,u6,u7,u8,u9,jM,jN,jO,jP,.slice aa a.length ac,.slice ba b.length bc,jS,jT,jU,jV,jW,jX,jY,jZ,j0,j1,j2,j3,j4,j5,j6,j7,j8,j9,ya,yb,yc,yd,ye,yf,yg,yh,yi,yj,yk,yl,ym,yn,yo,yp,yq,yr,ys,yt,yu,yv,yw,yx,yy,yz,yA,yB,yC,yD,yE,yF,yG,yH,yI,yJ,yK,yL,yM,yN,yO,yP,yQ,yR,yS,yT,yU,yV,yW,yX,yY,yZ,y0,y1,y2,y3,y4,y5,y6,y7,y8,y9,Ja,Jb,Jc,Jd,Je,Jf,Jg,Jh,Ji,Jj,Jk,Jl,Jm,Jn,Jo,Jp,Jq,Jr,Js,Jt,Ju,Jv,Jw,Jx,Jy,Jz,JA,JB,JC,JD,JE,JF,JG,JH,JI,JJ,JK,JL,JM,JN,JO,JP,JQ,JR,JS,JT,JU,JV,JW,JX,JY,JZ,J0,J1,J2,J3,J4,J5,J6,J7,J8,J9,Ya,Yb,Yc,Yd,Ye,Yf,Yg,Yh,Yi,Yj,Yk,Yl,Ym,Yn,Yo,Yp,Yq,Yr,Ys,Yt,Yu,Yv,Yw,Yx,Yy,Yz,YA,YB,YC,YD,YE,YF,YG,YH,YI,YJ,YK,YL,YM,YN,YO,YP,YQ,YR,YS,YT,YU,YV,YW,YX,YY,YZ,Y0,Y1,Y2,Y3,Y4,Y5,Y6,Y7,Y8,Y9,Xa,Xb,Xc,Xd,Xe,Xf,Xg],[]⟩ w:=by
 have HKH:=hid HK
 clear HK
 conv=>arg 2;whnf
 by_cases hl:a.length=b.length
 case neg=>
  have q0:((a.length:Int)==(b.length:Int))=false:=by rw[beq_eq_false_iff_ne];omega
  have hR:Hid (decide (b=a)=false):=hid (decide_eq_false (fun h=>hl (by rw[h])))
  rw[hR.out] at HKH
  clear hl
  go_wp2
  exact HKH.out _ _ _ _ _ _ _ _ _ _ _ (Below.refl _ _)
 have q0:((a.length:Int)==(b.length:Int))=true:=by rw[beq_iff_eq];omega
 have CB:=begins_any w _ _ a b HA.out HBS.out
 have hR:=pre_len hl
 rw[←hR] at HKH
 clear hl hR
 cases hpre:a.isPrefixOf b with
 |true=>
  rw[hpre] at CB HKH
  have CB:=hid CB
  clear hpre
  go_wp2_with fail
  refine CB.out.mono ?_
  rintro ez w5 ⟨rfl,hb5⟩
  have HB5:=hid hb5
  clear hb5 CB
  go_wp2
  exact HKH.out _ _ _ _ _ _ _ _ _ _ _ HB5.out
 |false=>
  rw[hpre] at CB HKH
  have CB:=hid CB
  clear hpre
  go_wp2_with fail
  refine CB.out.mono ?_
  rintro ez w5 ⟨rfl,hb5⟩
  have HB5:=hid hb5
  clear hb5 CB
  go_wp2
  exact HKH.out _ _ _ _ _ _ _ _ _ _ _ HB5.out
theorem mv_r23 {Q:Exit→Act→World→Prop} (u1 u2 u3 u4 u5 u6 u7 u8 u9 jM jN jO jP jQ jT jU jV jW jX jY jZ j0 j1 j2 j3 j4 j5 j6 j7 j8 j9 ya yb yc yd ye yf yg yh yi yj yk yl ym yn yo yp yq yr ys yt yu yv yw yx yy yz yA yB yC yD yE yF yG yH yI yJ yK yL yM yN yO yP yQ yR yS yT yU yV yW yX yY yZ y0 y1 y2 y3 y4 y5 y6 y7 y8 y9 Ja Jb Jc Jd Je Jf Jg Jh Ji Jj Jk Jl Jm Jn Jo Jp Jq Jr Js Jt Ju Jv Jw Jx Jy Jz JA JB JC JD JE JF JG JH JI JJ JK JL JM JN JO JP JQ JR JS JT JU JV JW JX JY JZ J0 J1 J2 J3 J4 J5 J6 J7 J8 J9 Ya Yb Yc Yd Ye Yf Yg Yh Yi Yj Yk Yl Ym Yn Yo Yp Yq Yr Ys Yt Yu Yv Yw Yx Yy Yz YA YB YC YD YE YF YG YH YI YJ YK YL YM YN YO YP YQ YR YS YT YU YV YW YX YY YZ Y0 Y1 Y2 Y3 Y4 Y5 Y6 Y7 Y8 Y9 Xa Xb Xc Xd Xe Xf Xg:Value) {B r bc:Nat} {ba:Option Addr} {b:PN} {s:Bool} {v:Value} {R:List RN} {F:Tr} {w:World}
 (hP:∀ c (a a':Act) w,a.defers=a'.defers→Q (.panic c) a w→Q (.panic c) a' w) (hlen:R.length≤1000000) (hbl:b.length≤1000) (hc:F.clock≤1000000) (H:Hid (RTree B w r v R F)) (HBS:Hid (St.StrsAt w (.slice ba b.length bc) b))
 (HK:∀ (jy jz jA jB jC jD jE jF jG jH jI jJ jK jL:Value) (w':World),Below w.heap.size w w'→Q .normal ⟨#[.pointer (some ⟨r,0,none⟩),u1,u2,u3,u4,u5,u6,u7,u8,u9,jM,jN,jO,jP,jQ,.slice ba b.length bc,.bool s,jT,jU,jV,jW,jX,jY,jZ,j0,j1,j2,j3,j4,j5,j6,j7,j8,j9,ya,yb,yc,yd,ye,yf,yg,yh,yi,yj,yk,yl,ym,yn,yo,yp,yq,yr,ys,yt,yu,yv,yw,yx,yy,yz,yA,yB,yC,yD,yE,yF,yG,yH,yI,yJ,yK,yL,yM,yN,yO,yP,yQ,yR,yS,yT,yU,yV,yW,yX,yY,yZ,y0,y1,y2,y3,y4,y5,y6,y7,y8,y9,Ja,Jb,Jc,Jd,Je,Jf,Jg,Jh,Ji,Jj,Jk,Jl,Jm,Jn,Jo,Jp,Jq,Jr,Js,Jt,Ju,Jv,Jw,Jx,Jy,Jz,JA,JB,JC,jy,jz,jA,jB,jC,jD,jE,jF,jG,jH,jI,jJ,jK,jL,.bool (fullB s (kidsT F.L b).length),JS,JT,JU,JV,JW,JX,JY,JZ,J0,J1,J2,J3,J4,J5,J6,J7,J8,J9,Ya,Yb,Yc,Yd,Ye,Yf,Yg,Yh,Yi,Yj,Yk,Yl,Ym,Yn,Yo,Yp,Yq,Yr,Ys,Yt,Yu,Yv,Yw,Yx,Yy,Yz,YA,YB,YC,YD,YE,YF,YG,YH,YI,YJ,YK,YL,YM,YN,YO,YP,YQ,YR,YS,YT,YU,YV,YW,YX,YY,YZ,Y0,Y1,Y2,Y3,Y4,Y5,Y6,Y7,Y8,Y9,Xa,Xb,Xc,Xd,Xe,Xf,Xg],[]⟩ w'):
 Code.wp Tryz.prog (mvR 23) Q ⟨#[.pointer (some ⟨r,0,none⟩),u1,u2,u3,u4,u5,u6,u7,u8,u9,jM,jN,jO,jP,jQ,.slice ba b.length bc,.bool s,jT,jU,jV,jW,jX,jY,jZ,j0,j1,j2,j3,j4,j5,j6,j7,j8,j9,ya,yb,yc,yd,ye,yf,yg,yh,yi,yj,yk,yl,ym,yn,yo,yp,yq,yr,ys,yt,yu,yv,yw,yx,yy,yz,yA,yB,yC,yD,yE,yF,yG,yH,yI,yJ,yK,yL,yM,yN,yO,yP,yQ,yR,yS,yT,yU,yV,yW,yX,yY,yZ,y0,y1,y2,y3,y4,y5,y6,y7,y8,y9,Ja,Jb,Jc,Jd,Je,Jf,Jg,Jh,Ji,Jj,Jk,Jl,Jm,Jn,Jo,Jp,Jq,Jr,Js,Jt,Ju,Jv,Jw,Jx,Jy,Jz,JA,JB,JC,JD,JE,JF,JG,JH,JI,JJ,JK,JL,JM,JN,JO,JP,JQ,JR,JS,JT,JU,JV,JW,JX,JY,JZ,J0,J1,J2,J3,J4,J5,J6,J7,J8,J9,Ya,Yb,Yc,Yd,Ye,Yf,Yg,Yh,Yi,Yj,Yk,Yl,Ym,Yn,Yo,Yp,Yq,Yr,Ys,Yt,Yu,Yv,Yw,Yx,Yy,Yz,YA,YB,YC,YD,YE,YF,YG,YH,YI,YJ,YK,YL,YM,YN,YO,YP,YQ,YR,YS,YT,YU,YV,YW,YX,YY,YZ,Y0,Y1,Y2,Y3,Y4,Y5,Y6,Y7,Y8,Y9,Xa,Xb,Xc,Xd,Xe,Xf,Xg],[]⟩ w:=by
 have HKH:=hid HK
 clear HK
 conv=>arg 2;whnf
 have hclk2:((F.clock:Int)==1099511627776)=false:=by rw[beq_eq_false_iff_ne];omega
 have C1:Hid (∀ w',Below w.heap.size w w'→w'.cell? ⟨r,1,none⟩=some (.int .i64 (F.clock:Int))):=hid (fun w' hb=>cell_of_heap (H.out.below hb).book)
 have c1:=C1.out w (Below.refl _ _)
 cases s with
 |true=>
  have hR:Hid (fullB true (kidsT F.L b).length=false):=hid rfl
  rw[hR.out] at HKH
  go_wp2
  exact HKH.out _ _ _ _ _ _ _ _ _ _ _ _ _ _ _ (Below.refl _ _)
 |false=>
  have KD:=hid (rkids_any B w r v R F _ b HBS.out (by omega) hlen H.out)
  have hR:Hid (fullB false (kidsT F.L b).length=decide (256≤(kidsT F.L b).length)):=hid rfl
  rw[hR.out] at HKH
  unfold ptr at KD
  generalize (kidsT F.L b).length=kl at*
  by_cases hk:256≤kl
  · have hki:(256:Int)≤(kl:Int):=by omega
    have hkd:Hid (decide (256≤kl)=true):=hid (decide_eq_true hk)
    rw[hkd.out] at HKH
    clear hk
    go_wp2_with fail
    refine KD.out.mono ?_
    rintro ez w5 ⟨rfl,hb5⟩
    have HB5:=hid hb5
    clear hb5 KD
    go_wp2
    exact HKH.out _ _ _ _ _ _ _ _ _ _ _ _ _ _ _ HB5.out
  · have hki:decide ((256:Int)≤(kl:Int))=false:=by simp;omega
    have hkd:Hid (decide (256≤kl)=false):=hid (decide_eq_false hk)
    rw[hkd.out] at HKH
    clear hk
    go_wp2_with fail
    refine KD.out.mono ?_
    rintro ez w5 ⟨rfl,hb5⟩
    have HB5:=hid hb5
    have c15:=C1.out w5 hb5
    clear hb5 KD
    go_wp2
    exact HKH.out _ _ _ _ _ _ _ _ _ _ _ _ _ _ _ HB5.out
theorem tick_srt {L:List TE} (h:SrtT L) (ns:List PN) (c:Int):SrtT (tickN ns c L):=by
 have hm:(tickN ns c L).map TE.nm=L.map TE.nm:=by
  rw[tickN,List.map_map]
  refine List.map_congr_left (fun x _=>?_)
  show(if x.nm∈ns then({x with tick:=c}:TE) else x).nm=x.nm
  split <;> rfl
 have key:(L.map TE.nm).Pairwise fun a b=>ahd a b=true:=List.pairwise_map.2 h
 rw[←hm] at key
 exact List.pairwise_map.1 key
theorem tick_get {L:List TE} {ns:List PN} {c:Int} {n:PN} {e:TE} (h:getT n L=some e):∃ e',getT n (tickN ns c L)=some e':=by
 obtain⟨he,hn⟩:=getT_nm h
 cases hg:getT n (tickN ns c L) with
 |some e'=>exact ⟨e',rfl⟩
 |none=>
  exfalso
  refine getT_none.1 hg _ (List.mem_map.2 ⟨e,he,rfl⟩) ?_
  show(if e.nm∈ns then({e with tick:=c}:TE) else e).nm=n
  split <;> exact hn
theorem into_iff {a b:PN}:intoB a b=true ↔ (a=[]∨(a.length < b.length∧a=b.take a.length)):=by
 rw[intoB,Bool.or_eq_true,decide_eq_true_iff,Bool.and_eq_true,decide_eq_true_iff,List.isPrefixOf_iff_prefix,List.length_eq_zero_iff,List.prefix_iff_eq_take]
theorem rmove_end {B:Nat} {w w5 w9:World} {r gv vc:Nat} {va v18:Value} {R R2 G:List RN} {F F2:Tr} {a b:PN} (h:RTree B w r (.slice (some ⟨gv,0,none⟩) R.length vc) R F) (hBw:B≤w.heap.size) (hT5:Turn (r::ob (.slice (some ⟨gv,0,none⟩) R.length vc)) w w5) (h5:RTree B w5 r (.slice (some ⟨gv,0,none⟩) R.length vc) R2 F2) (hrob:robL R2=robL R) (hI:MvI w5 w9 a b R2 va v18 R2.length G):
 RTree B (w9.setCell ⟨r,0,none⟩ va) r va (offR a R2) {F2 with L:=dropT a F2.L}∧(w9.setCell ⟨r,0,none⟩ va).ownsRow w5.heap.size RnT 11 v18 G.length (rcells G)∧(∀ q∈ob v18,q≠r)∧(∀ m∈G,PathAt B (w9.setCell ⟨r,0,none⟩ va) m.nv m.nm∧XsAt (w9.setCell ⟨r,0,none⟩ va) m.xv m.at_.xs)∧
  (∀ m∈G,∀ q∈robN m,B≤q∧q≠r)∧(∀ m∈G,∀ q∈robN m,q∈robL R∨w.heap.size≤q)∧Turn (r::ob (.slice (some ⟨gv,0,none⟩) R.length vc)) w (w9.setCell ⟨r,0,none⟩ va)∧(∀ q∈ob va,w.heap.size≤q):=by
 have hr:=lt_of_heap h.book
 have hsz:=hT5.size
 have hk:∀ q,q≠r→(w9.setCell ⟨r,0,none⟩ va).heap[q]? =w9.heap[q]? :=fun q hq=>Below.heap_setCell _ _ _ _ hq
 have hst:=hI.stay
 rw[List.take_length] at hst
 have hge:∀ q∈ob va,w5.heap.size≤q:=fun q hq=>rowS_ge hst q hq
 have hge2:∀ q∈ob v18,w5.heap.size≤q:=fun q hq=>rowS_ge hI.go q hq
 have h9:=h5.below hI.bel
 have hap:∀ q∈robL (offR a R2),B≤q∧q≠r∧q ∉ ob va:=fun q hq=>by
  have hq:=offR_rob hq
  refine⟨(h5.apart q hq).1,(h5.apart q hq).2.1,fun hv=>?_⟩
  have h1:=hge q hv
  have h2:=h5.lt q (by rw[rblk,List.mem_cons,List.mem_append];exact .inr (.inr hq))
  omega
 have htree:=rtree_relist (F:=F2) h9.book (row_mono hst (Nat.le_trans hBw hsz)) (fun hv=>by have:=hge r hv;omega) h.base (fun m hm=>h9.node m (List.mem_filter.1 hm).1) hap
 rw[offR_te,←h5.is] at htree
 have hxr:∀ m∈G,∀ q∈xob m.at_.xs m.xv,q∈robL R2:=fun m hm q hq=>by
  obtain⟨m0,hm0,e1,e2⟩:=hI.xs m hm
  rw[e1,e2] at hq
  exact robL_mem hm0 (List.mem_append_right _ hq)
 refine⟨htree,rowS_kept hI.go (fun q hq _=>hk q (fun e=>by have:=hge2 q hq;omega)),fun q hq e=>by have:=hge2 q hq;omega,fun m hm=>⟨?_,?_⟩,fun m hm q hq=>?_,fun m hm q hq=>?_,(hT5.trans (Turn.of_below (X:=[]) hI.bel) (fun y hy=>nomatch hy)).setCell (p:=⟨r,0,none⟩) (.inl (by simp)) va,fun q hq=>Nat.le_trans hsz (hge q hq)⟩
 · have hp:=hI.path m hm
   exact(PathAt.mk (row_mono hp.row (Nat.le_trans hBw hsz)) hp.len).kept (fun q hq=>hk q (fun e=>by have:=rowS_ge hp.row q hq;omega))
 · obtain⟨m0,hm0,e1,e2⟩:=hI.xs m hm
   rw[e1,e2]
   refine(h9.node m0 hm0).2.kept (by rw[World.size_setCell];exact Nat.le_refl _) (fun q hq=>hk q ?_)
   exact(h5.apart q (robL_mem hm0 (List.mem_append_right _ hq))).2.1
 · rcases List.mem_append.1 hq with hq|hq
   · have:=rowS_ge (hI.path m hm).row q hq
     exact⟨by omega,by omega⟩
   · have:=h5.apart q (hxr m hm q hq)
     exact⟨this.1,this.2.1⟩
 · rcases List.mem_append.1 hq with hq|hq
   · exact .inr (Nat.le_trans hsz (rowS_ge (hI.path m hm).row q hq))
   · exact .inl (hrob ▸ hxr m hm q hq)
theorem rmove_any (B:Nat) (w:World) (r:Nat) (v:Value) (R:List RN) (F:Tr) (k:Nat) (p q:List UInt8) (hT:Tabs w) (hp:p.length≤4611686018427387904) (hq:q.length≤4611686018427387904) (hg:GoodF k F) (hk:k≤1000) (hc:F.clock≤1000000) (hB:B≤w.heap.size) (hms:moveE p q F=0→SrtT (moveN p q F).L) (h:RTree B w r v R F):
 Calls Tryz.prog 31 #[ptr r,.string ⟨p.toArray⟩,.string ⟨q.toArray⟩] w (RPost B w r v R (if moveE p q F=0 then moveN p q F else F) (moveE p q F)):=by
 have H:=hid h
 have HG:=hid hg;have HBL:=hid hB;have HT:=hid hT;have HMS:=hid hms
 have hlen:R.length≤500000:=by rw[h.len];have:=hg.len;omega
 have hlen2:R.length≤1000000:=by omega
 have HD16:Hid (∀ m∈R,m.nm.length≤1000):=hid (fun m hm=>by have:=hg.deep m.te (by rw[h.is];exact List.mem_map.2 ⟨m,hm,rfl⟩);exact Nat.le_trans this (by decide))
 obtain⟨F9,hF9⟩:∃ F9,F9=if moveE p q F=0 then moveN p q F else F:=⟨_,rfl⟩
 obtain⟨c9,hc9⟩:∃ c9,c9=moveE p q F:=⟨_,rfl⟩
 rw[←hF9,←hc9]
 have NOX:Hid (∀ (w1:World) (c:Int),Below w.heap.size w w1→moveE p q F=c→c≠0→RPost B w r v R F9 c9 (.returned (.int .i64 c)) w1):=hid (fun w1 c hb he hn=>by
  rw[hF9,hc9,if_neg (by rw[he];exact hn),he]
  exact rpost_same H.out hb rfl)
 have YES:Hid (∀ (w1:World),moveE p q F=0→RPost B w r v R (moveN p q F) 0 (.returned (.int .i64 0)) w1→RPost B w r v R F9 c9 (.returned (.int .i64 0)) w1):=hid (fun w1 he h=>by
  rw[hF9,hc9,if_pos he,he];exact h)
 have HDEF:Hid (moveE p q F=moveE p q F):=hid rfl
 obtain⟨va,vc,rfl⟩:=rowS_slice h.row
 have hla:=splitL_16 p
 have hlb:=splitL_16 q
 have SP:=ref_split ⟨p.toArray⟩ w hT hp
 rw[show (⟨p.toArray⟩:ByteArray).data.toList=p from by simp] at SP
 have SP:=hid SP
 have SQ:=hid (fun w1 (hb:Below w.heap.size w w1)=>ref_split ⟨q.toArray⟩ w1 (hT.below hb) hq)
 clear h hT hg hF9 hc9 hB hms HDEF
 unfold ptr at*
 go_enter Tryz.func31,Tryz.ntmps31
 go_wp2_with fail
 refine SP.out.mono ?_
 rintro ex w1 ⟨vl,rfl,hr1,hb1⟩
 have HB1:=hid hb1
 have HPA1:=hid (rsplit_path hr1)
 obtain⟨aa,ac,rfl⟩:=rowS_slice hr1
 clear hr1 hb1 SP
 have SQ1:=hid (SQ.out w1 HB1.out)
 clear SQ
 go_wp2_with fail
 refine SQ1.out.mono ?_
 rintro ex w2 ⟨vl2,rfl,hr2,hb2⟩
 have HB2:=hid (HB1.out.trans (hb2.mono HB1.out.size))
 have HPB2:=hid (rsplit_path hr2)
 have HPA2:=hid (HPA1.out.below hb2)
 obtain⟨ba,bc,rfl⟩:=rowS_slice hr2
 clear hr2 hb2 SQ1 HPA1
 rcases(splitE_cases p).symm with⟨h0,_⟩|h0
 · have HC:=hid (show moveE p q F=10 by rw[moveE,if_pos (by rw[h0];decide)])
   rw[h0]
   clear h0
   generalize splitE q=sq at*
   go_wp2
   go_ret
   exact NOX.out _ _ HB2.out HC.out (by decide)
 have HS1:=hid h0
 rw[h0]
 clear h0
 rcases(splitE_cases q).symm with⟨h0,_⟩|h0
 · have HC:=hid (show moveE p q F=10 by rw[moveE,if_neg (by rw[HS1.out];decide),if_pos (by rw[h0];decide)])
   rw[h0]
   clear h0
   go_wp2
   go_ret
   exact NOX.out _ _ HB2.out HC.out (by decide)
 have HM1:=hid (show moveE p q F=_ by rw[moveE,if_neg (by rw[HS1.out];decide),if_neg (by rw[h0];decide)])
 rw[h0]
 clear h0 HS1
 obtain⟨a,ha⟩:∃ a,a=splitL p:=⟨_,rfl⟩
 obtain⟨b,hb⟩:∃ b,b=splitL q:=⟨_,rfl⟩
 rw[←ha] at HPA2 hla
 rw[←hb] at HPB2 hlb
 rw[←ha,←hb] at HM1
 rw[←ha,←hb]
 have HA:=hid ha;have HBQ:=hid hb
 clear ha hb
 have AT:=rat_any B w2 r _ R F _ a HPA2.out.strs HG.out.srt hlen2 (H.out.below HB2.out)
 rcases(atI_cases a HG.out.srt).symm with⟨i,e,hI,hi,hen,hgs⟩|⟨hI,hgn⟩
 case inr=>
  have HC:=hid (show moveE p q F=6 by rw[HM1.out,hgn])
  rw[hI] at AT
  have AT:=hid AT
  unfold ptr at AT
  clear hI hgn HM1
  go_wp2_with fail
  refine AT.out.mono ?_
  rintro ex w3 ⟨rfl,hb3⟩
  have HB3:=hid (HB2.out.trans (hb3.mono HB2.out.size))
  clear hb3 AT
  go_wp2
  go_ret
  exact NOX.out _ _ HB3.out HC.out (by decide)
 have HM2:=hid (show moveE p q F=_ by rw[HM1.out,hgs])
 have HGA:=hid hgs
 rw[hI] at AT
 have AT:=hid AT
 have hi0:¬ ((i:Int) < 0):=by omega
 unfold ptr at AT
 clear hI hgs HM1 hi hen
 go_wp2_with fail
 refine AT.out.mono ?_
 rintro ex w3 ⟨rfl,hb3⟩
 have HB3:=hid (HB2.out.trans (hb3.mono HB2.out.size))
 have HPA3:=hid (HPA2.out.below hb3)
 have HPB3:=hid (HPB2.out.below hb3)
 clear hb3 AT HPA2 HPB2
 go_upto_region 8 with(fail)
 refine mv_r8 _ _ _ _ _ _ _ _ _ _ _ _ _ _ _ _ _ _ _ _ _ _ _ _ _ _ _ _ _ _ _ _ _ _ _ _ _ _ _ _ _ _ _ _ _ _ _ _ _ _ _ _ _ _ _ _ _ _ _ _ _ _ _ _ _ _ _ _ _ _ _ _ _ _ _ _ _ _ _ _ _ _ _ _ _ _ _ _ _ _ _ _ _ _ _ _ _ _ _ _ _ _ _ _ _ _ _ _ _ _ _ _ _ _ _ _ _ _ _ _ _ _ _ _ _ _ _ _ _ _ _ _ _ _ _ _ _ _ _ _ _ _ _ _ _ _ _ _ _ _ _ _ _ _ _ _ _ _ _ _ _ _ _ _ _ _ _ _ _ _ _ _ _ _ _ _ _ _ _ _ _ _ _ _ _ _ _ _ _ _ _ _ _ _ _ _ _ _ _ _ _ _ _ _ _ _ _ _ _ _ _ _ _ _ _ _ _ _ _ _ _ _ _ _ _ (by intro c a a_ w hd h;have h2:a.defers=[]∧_:=h;exact And.intro (hd.symm.trans h2.1) h2.2) (by omega) (by omega) (hid HPA3.out.strs) (hid HPB3.out.strs) ?_
 intro jg jh ji jj jk jl jm jn jo jp jq jr js jt w4 hb4
 have HB4:=hid (HB3.out.trans (hb4.mono HB3.out.size))
 have HPA4:=hid (HPA3.out.below hb4)
 have HPB4:=hid (HPB3.out.below hb4)
 clear hb4 HPA3 HPB3
 rcases Bool.eq_false_or_eq_true (intoB a b) with hinto|hinto
 · rw[hinto]
   have HC:=hid (show moveE p q F=1 by rw[HM2.out,if_pos (into_iff.1 hinto)])
   clear hinto HM2
   go_wp2
   go_ret
   exact NOX.out _ _ HB4.out HC.out (by decide)
 rw[hinto]
 have hnot:¬ (a=[]∨(a.length < b.length∧a=b.take a.length)):=fun h=>by rw[into_iff.2 h] at hinto;cases hinto
 have HM3:=hid (show moveE p q F=_ by rw[HM2.out,if_neg hnot])
 have HNOT:=hid hnot
 clear hinto HM2 hnot
 -- is there such a node?
 have AT2:=rat_any B w4 r _ R F _ b HPB4.out.strs HG.out.srt hlen2 (H.out.below HB4.out)
 rcases(atI_cases b HG.out.srt).symm with⟨j,e2,hI,_,_,hgs⟩|⟨hI,hgn⟩
 · have HC:=hid (show moveE p q F=7 by rw[HM3.out,hgs];rfl)
   rw[hI] at AT2
   have AT2:=hid AT2
   have hji:(0:Int)≤(j:Int):=by omega
   unfold ptr at AT2
   clear hI hgs HM3
   go_wp2_with fail
   refine AT2.out.mono ?_
   rintro ex w5 ⟨rfl,hb5⟩
   have HB5:=hid (HB4.out.trans (hb5.mono HB4.out.size))
   clear hb5 AT2
   go_wp2
   go_ret
   exact NOX.out _ _ HB5.out HC.out (by decide)
 have HM4:=hid (show moveE p q F=_ by rw[HM3.out,hgn,Option.isSome_none,if_neg (by decide)])
 have HGB:=hid hgn
 have hbne:b≠[]:=fun h0=>by
  obtain⟨e0,he0⟩:=HG.out.root
  rw[h0,he0] at hgn;cases hgn
 have hane:a≠[]:=fun h0=>HNOT.out (.inl h0)
 have HBNE:=hid hbne;have HANE:=hid hane
 rw[hI] at AT2
 have AT2:=hid AT2
 unfold ptr at AT2
 clear hI hgn HM3
 go_wp2_with fail
 refine AT2.out.mono ?_
 rintro ex w5 ⟨rfl,hb5⟩
 have HB5:=hid (HB4.out.trans (hb5.mono HB4.out.size))
 have HPA5:=hid (HPA4.out.below hb5)
 have HPB5:=hid (HPB4.out.below hb5)
 clear hb5 AT2 HPA4 HPB4
 -- its folder
 have FO:=hid (rfolder_any B _ w5 r _ R F _ b HBNE.out HPB5.out HG.out.srt hlen2 (H.out.below HB5.out))
 unfold ptr at FO
 by_cases hab:abvE b F.L=0
 case neg=>
  have HC:=hid (show moveE p q F=abvE b F.L by rw[HM4.out,if_pos hab])
  have HAB:=hid hab
  have hab1:(abvE b F.L==0)=false:=by simpa using hab
  have hab2:(abvE b F.L !=0)=true:=by simpa using hab
  generalize abvE b F.L=ab at*
  clear hab HM4
  go_wp2_with fail
  refine FO.out.mono ?_
  rintro ex w6 ⟨rfl,hb6⟩
  have HB6:=hid (HB5.out.trans (hb6.mono HB5.out.size))
  clear hb6 FO
  go_wp2
  go_ret
  exact NOX.out _ _ HB6.out HC.out HAB.out
 have HM5:=hid (show moveE p q F=_ by rw[HM4.out,if_neg (by rw[hab];decide)])
 obtain⟨d,hd⟩:∃ d,getT b.dropLast F.L=some d:=by
  rw[abvE] at hab
  cases hg:getT b.dropLast F.L with
  |none=>rw [hg] at hab;cases hab
  |some d=>exact ⟨d,rfl⟩
 have HDG:=hid hd
 rw[hab] at FO
 clear hab HM4 hd
 go_wp2_with fail
 refine FO.out.mono ?_
 rintro ex w6 ⟨rfl,hb6⟩
 have HB6:=hid (HB5.out.trans (hb6.mono HB5.out.size))
 have HPA6:=hid (HPA5.out.below hb6)
 have HPB6:=hid (HPB5.out.below hb6)
 clear hb6 FO HPA5 HPB5
 -- how deep?
 go_upto_block 0 with(fail)
 refine mv_b0 _ _ _ _ _ _ _ _ _ _ _ _ _ _ _ _ _ _ _ _ _ _ _ _ _ _ _ _ _ _ _ _ _ _ _ _ _ _ _ _ _ _ _ _ _ _ _ _ _ _ _ _ _ _ _ _ _ _ _ _ _ _ _ _ _ _ _ _ _ _ _ _ _ _ _ _ _ _ _ _ _ _ _ _ _ _ _ _ _ _ _ _ _ _ _ _ _ _ _ _ _ _ _ _ _ _ _ _ _ _ _ _ _ _ _ _ _ _ _ _ _ _ _ _ _ _ _ _ _ _ _ _ _ _ _ _ _ _ _ _ _ _ _ _ _ _ _ _ _ _ _ _ _ _ _ _ _ _ _ _ _ _ _ _ _ _ _ _ _ _ _ _ _ _ _ _ _ _ _ _ _ _ _ _ _ _ _ _ _ _ _ _ _ _ _ _ _ _ _ _ _ _ _ _ _ _ _ _ _ _ _ _ _ _ _ _ _ _ _ _ _ _ _ (by intro c a a_ w hd h;have h2:a.defers=[]∧_:=h;exact And.intro (hd.symm.trans h2.1) h2.2) hlen2 (by omega) (by omega) (hid (H.out.below HB6.out)) (hid HPA6.out.strs) HD16 ?_ ?_
 · intro hlong ja ju jv jw jx jy jz jA jB jC jD jE jF jG jH jI jJ jK jL jM jN jO jP jQ jR jS jT jU jV jW jX jY jZ j0 j1 j3 j4 j5 w7 hb7
   have HC:=hid (show moveE p q F=10 by
    rw[long_deep H.out.is hlb,decide_eq_true_iff] at hlong
    rw[HM5.out,if_pos hlong])
   have HB7:=hid (HB6.out.trans (hb7.mono HB6.out.size))
   clear hlong hb7
   go_ret
   exact NOX.out _ _ HB7.out HC.out (by decide)
 intro t6 ja ju jv jw jx jy jz jA jB jC jD jE jF jG jH jI jJ jK jL jM jN jO jP jQ jR jS jT jU jV jW jX jY jZ j0 j1 j3 j4 j5 w7 h7
 obtain⟨hlong,hb7⟩:=h7
 have HM6:=hid (show moveE p q F=if (b.dropLast≠a.dropLast∧256≤(kidsT F.L b.dropLast).length) then 3 else 0 by
  rw[long_deep H.out.is hlb,decide_eq_false_iff_not] at hlong
  rw[HM5.out,if_neg hlong]
  have:((b.dropLast≠a.dropLast∧256≤(kidsT F.L b.dropLast).length)∨1099511627776≤F.clock) ↔ (b.dropLast≠a.dropLast∧256≤(kidsT F.L b.dropLast).length):=⟨fun h=>h.resolve_right (by omega),.inl⟩
  simp only[this])
 have HB7:=hid (HB6.out.trans (hb7.mono HB6.out.size))
 have HPA7:=hid (HPA6.out.below hb7)
 have HPB7:=hid (HPB6.out.below hb7)
 clear hb7 hlong HM5 HPA6 HPB6
 obtain⟨ga,ac2,hva,hac,hacm,hsta⟩:=HPA7.out.front HANE.out
 injection hva with e1 e2 e3
 subst e1 e3
 obtain⟨gb,bc2,hvb,hbc,hbcm,hstb⟩:=HPB7.out.front HBNE.out
 injection hvb with f1 f2 f3
 subst f1 f3
 have hla1:1≤a.length:=by have:=List.length_pos_iff.2 HANE.out;omega
 have hlb1:1≤b.length:=by have:=List.length_pos_iff.2 HBNE.out;omega
 have hsa:((a.length - 1:Nat):Int)=(a.length:Int) - 1:=by omega
 have hsb:((b.length - 1:Nat):Int)=(b.length:Int) - 1:=by omega
 have hua:a.length - 1=a.dropLast.length:=List.length_dropLast.symm
 have hub:b.length - 1=b.dropLast.length:=List.length_dropLast.symm
 rw[hua] at hsta
 rw[hub] at hstb
 have HUA:=hid hua;have HUB:=hid hub
 have HSTA:=hid hsta;have HSTB:=hid hstb
 unfold maxLen at hacm hbcm
 clear e2 f2 hua hub hsta hstb
 go_upto_region 22 with(fail)
 rw[HUA.out,HUB.out]
 refine mv_r22 _ _ _ _ _ _ _ _ _ _ _ _ _ _ _ _ _ _ _ _ _ _ _ _ _ _ _ _ _ _ _ _ _ _ _ _ _ _ _ _ _ _ _ _ _ _ _ _ _ _ _ _ _ _ _ _ _ _ _ _ _ _ _ _ _ _ _ _ _ _ _ _ _ _ _ _ _ _ _ _ _ _ _ _ _ _ _ _ _ _ _ _ _ _ _ _ _ _ _ _ _ _ _ _ _ _ _ _ _ _ _ _ _ _ _ _ _ _ _ _ _ _ _ _ _ _ _ _ _ _ _ _ _ _ _ _ _ _ _ _ _ _ _ _ _ _ _ _ _ _ _ _ _ _ _ _ _ _ _ _ _ _ _ _ _ _ _ _ _ _ _ _ _ _ _ _ _ _ _ _ _ _ _ _ _ _ _ _ _ _ _ _ _ _ _ _ _ _ _ _ _ _ _ _ _ _ _ _ _ _ _ _ _ _ _ _ _ _ _ _ _ _ _ _ _ (by intro c a a_ w hd h;have h2:a.defers=[]∧_:=h;exact And.intro (hd.symm.trans h2.1) h2.2) (a:=a.dropLast) (b:=b.dropLast) (by rw[←HUA.out];omega) (by rw[←HUB.out];omega) HSTA HSTB ?_
 intro j6 j7 j8 j9 ya yb yc yd ye yf w8 hb8
 have HB8:=hid (HB7.out.trans (hb8.mono HB7.out.size))
 have HPA8:=hid (HPA7.out.below hb8)
 have HPB8:=hid (HPB7.out.below hb8)
 have HSTA8:=hid (HSTA.out.below hb8)
 have HSTB8:=hid (HSTB.out.below hb8)
 clear hb8 HPA7 HPB7 HSTA HSTB
 go_upto_region 23 with(fail)
 refine mv_r23 _ _ _ _ _ _ _ _ _ _ _ _ _ _ _ _ _ _ _ _ _ _ _ _ _ _ _ _ _ _ _ _ _ _ _ _ _ _ _ _ _ _ _ _ _ _ _ _ _ _ _ _ _ _ _ _ _ _ _ _ _ _ _ _ _ _ _ _ _ _ _ _ _ _ _ _ _ _ _ _ _ _ _ _ _ _ _ _ _ _ _ _ _ _ _ _ _ _ _ _ _ _ _ _ _ _ _ _ _ _ _ _ _ _ _ _ _ _ _ _ _ _ _ _ _ _ _ _ _ _ _ _ _ _ _ _ _ _ _ _ _ _ _ _ _ _ _ _ _ _ _ _ _ _ _ _ _ _ _ _ _ _ _ _ _ _ _ _ _ _ _ _ _ _ _ _ _ _ _ _ _ _ _ _ _ _ _ _ _ _ _ _ _ _ _ _ _ _ _ _ _ _ _ _ _ _ _ _ _ _ _ _ _ _ _ _ _ _ _ _ _ _ _ _ (by intro c a a_ w hd h;have h2:a.defers=[]∧_:=h;exact And.intro (hd.symm.trans h2.1) h2.2) (s:=decide (b.dropLast=a.dropLast)) hlen2 (by rw[←HUB.out];omega) hc (hid (H.out.below HB8.out)) HSTB8 ?_
 intro yg yh yi yj yk yl ym yn yo yp yq yr ys yt w9 hb9
 have HB9:=hid (HB8.out.trans (hb9.mono HB8.out.size))
 have HPA9:=hid (HPA8.out.below hb9)
 have HPB9:=hid (HPB8.out.below hb9)
 have HSTA9:=hid (HSTA8.out.below hb9)
 have HSTB9:=hid (HSTB8.out.below hb9)
 clear hb9 HPA8 HPB8 HSTA8 HSTB8
 have hfull:fullB (decide (b.dropLast=a.dropLast)) (kidsT F.L b.dropLast).length=true ↔ (b.dropLast≠a.dropLast∧256≤(kidsT F.L b.dropLast).length):=by
  rw[fullB,Bool.and_eq_true,decide_eq_true_iff,Bool.not_eq_true',decide_eq_false_iff_not]
 rcases Bool.eq_false_or_eq_true (fullB (decide (b.dropLast=a.dropLast)) (kidsT F.L b.dropLast).length) with hfb|hfb
 · have HC:=hid (show moveE p q F=3 by rw[HM6.out,if_pos (hfull.1 hfb)])
   rw[hfb]
   clear hfb hfull HM6
   go_wp2
   go_ret
   exact NOX.out _ _ HB9.out HC.out (by decide)
 have HC:=hid (show moveE p q F=0 by rw[HM6.out,if_neg (fun h=>by rw[hfull.2 h] at hfb;cases hfb)])
 rw[hfb]
 clear hfb hfull HM6
 -- the clock
 obtain⟨u,hu⟩:∃ u,getT a.dropLast F.L=some u:=by
  obtain⟨e0,he0,hen0⟩:∃ e0∈F.L,e0.nm=a:=⟨e,(getT_nm HGA.out).1,(getT_nm HGA.out).2⟩
  obtain⟨u,hu,hun,_⟩:=HG.out.par e0 he0 a.dropLast (a.getLast HANE.out) (by rw[hen0];exact(List.dropLast_concat_getLast HANE.out).symm)
  have:=getT_of HG.out.srt hu
  rw[hun] at this;exact⟨u,this⟩
 obtain⟨j,hj,_⟩:=atI_get HG.out.srt hu
 have hun:=(getT_nm hu).2
 obtain⟨gv,cap,hv,hgv⟩:=H.out.form (by have:=(List.getElem?_eq_some_iff.1 hj).1;have h2:=H.out.len;omega)
 injection hv with g1 g2 g3
 subst g1 g3
 have hX9:=H.out.below HB9.out
 have c01:w9.cell? ⟨r,1,none⟩=some (.int .i64 (F.clock:Int)):=cell_of_heap hX9.book
 have f01:w9.frozen? ⟨r,1,none⟩=false:=frozen_of_heap hX9.book
 obtain⟨W3,hW3⟩:∃ W3,W3=w9.setCell ⟨r,1,none⟩ (.int .i64 ((F.clock:Int)+1)):=⟨_,rfl⟩
 have hX3:RTree B W3 r (.slice (some ⟨gv,0,none⟩) R.length vc) R {F with clock:=F.clock+1}:=by
  have:=hX9.clocked (F.clock+1)
  rw[Int.natCast_add] at this
  rw[hW3];exact this
 have HX3:=hid hX3;have HW3:=hid hW3
 have hrb:r < w.heap.size:=lt_of_heap H.out.book
 have hT3:Turn (r::ob (.slice (some ⟨gv,0,none⟩) R.length vc)) w W3:=by rw[hW3];exact(Turn.of_below HB9.out:Turn (r::ob (.slice (some ⟨gv,0,none⟩) R.length vc)) w w9).setCell (p:=⟨r,1,none⟩) (.inl (by simp)) _
 have HT3:=hid hT3
 have hgvw:gv < w.heap.size:=hgv
 -- rows of names stay
 have hge1:∀ q∈ob (.slice (some ⟨ga,0,none⟩) a.length ac),w.heap.size≤q:=fun q hq=>rowS_ge HPA9.out.row q hq
 have hge2:∀ q∈ob (.slice (some ⟨gb,0,none⟩) b.length bc),w.heap.size≤q:=fun q hq=>Nat.le_trans HB1.out.size (rowS_ge HPB9.out.row q hq)
 have hgaw:w.heap.size≤ga:=hge1 ga (by simp[ob,Value.ownBlock])
 have hgbw:w.heap.size≤gb:=hge2 gb (by simp[ob,Value.ownBlock])
 have KP:Hid (∀ w',Turn [r,gv] w9 w'→PathAt w.heap.size w' (.slice (some ⟨ga,0,none⟩) a.length ac) a∧PathAt w1.heap.size w' (.slice (some ⟨gb,0,none⟩) b.length bc) b):=hid (fun w' ht=>⟨HPA9.out.kept (fun q hq=>ht.block q (rowS_lt HPA9.out.row q hq) (by have:=hge1 q hq;simp;omega)),HPB9.out.kept (fun q hq=>ht.block q (rowS_lt HPB9.out.row q hq) (by have:=hge2 q hq;simp;omega))⟩)
 have ht93:Turn [r,gv] w9 W3:=by rw[hW3];exact(Turn.refl [r,gv] w9).setCell (p:=⟨r,1,none⟩) (.inl (by simp)) _
 have HT93:=hid ht93
 have HSTA3:Hid (St.StrsAt W3 (.slice (some ⟨ga,0,none⟩) a.dropLast.length ac) a.dropLast):=hid (by
  obtain⟨_,_,hv1,_,_,hst⟩:=(KP.out W3 ht93).1.front HANE.out
  injection hv1 with k1 k2 k3
  injection k1 with k1;injection k1 with k1
  rw[←k1,←k3,HUA.out] at hst;exact hst)
 have HU:=hid hu;have HJ:=hid hj;have HUN:=hid hun
 have HHGA:=hid hgaw;have HHGB:=hid hgbw
 clear hX9 hX3 hW3 hT3 hge1 hge2 ht93 hu hj hun g2
 go_upto_region 26 with(fail)
 rw[←HW3.out]
 refine mv_r26 _ _ _ _ _ _ _ _ _ _ _ _ _ _ _ _ _ _ _ _ _ _ _ _ _ _ _ _ _ _ _ _ _ _ _ _ _ _ _ _ _ _ _ _ _ _ _ _ _ _ _ _ _ _ _ _ _ _ _ _ _ _ _ _ _ _ _ _ _ _ _ _ _ _ _ _ _ _ _ _ _ _ _ _ _ _ _ _ _ _ _ _ _ _ _ _ _ _ _ _ _ _ _ _ _ _ _ _ _ _ _ _ _ _ _ _ _ _ _ _ _ _ _ _ _ _ _ _ _ _ _ _ _ _ _ _ _ _ _ _ _ _ _ _ _ _ _ _ _ _ _ _ _ _ _ _ _ _ _ _ _ _ _ _ _ _ _ _ _ _ _ _ _ _ _ _ _ _ _ _ _ _ _ _ _ _ _ _ _ _ _ _ _ _ _ _ _ _ _ _ _ _ _ _ _ _ _ _ _ _ _ _ _ _ _ _ _ _ _ _ _ _ _ _ _ (by intro c a a_ w hd h;have h2:a.defers=[]∧_:=h;exact And.intro (hd.symm.trans h2.1) h2.2) (e:=u) (j:=j) hlen2 (by rw[←HUA.out];omega) HX3 HSTA3 (hid HG.out.srt) HJ HUN.out ?_
 intro yu yv yw yx yy yz yA yB yC yD yE yF yG w10 h10
 obtain⟨m1,hm1,hme1,hX10,ht10,hrob1⟩:=h10
 obtain⟨F1,hF1⟩:∃ F1:Tr,F1={F with clock:=F.clock+1,L:=F.L.set j {u with tick:=((F.clock+1:Nat):Int)}}:=⟨_,rfl⟩
 obtain⟨R1,hR1⟩:∃ R1,R1=R.set j {m1 with tick:=((F.clock+1:Nat):Int)}:=⟨_,rfl⟩
 have hX10':RTree B w10 r (.slice (some ⟨gv,0,none⟩) R.length vc) R1 F1:=by rw[hF1,hR1];exact hX10
 have hrob1':robL R1=robL R:=by rw[hR1];exact hrob1
 have hr1l:R.length=R1.length:=by rw[hR1,List.length_set]
 have hF1L:F1.L=tickN [a.dropLast] ((F.clock+1:Nat):Int) F.L:=by
  rw[hF1];show F.L.set j _=_;rw[set_tick HG.out.srt HJ.out,HUN.out]
 have hF1c:F1.clock=F.clock+1:=by rw[hF1]
 have hF1s:SrtT F1.L:=by rw[hF1L];exact tick_srt HG.out.srt _ _
 obtain⟨d1,hd1⟩:∃ d1,getT b.dropLast F1.L=some d1:=by rw[hF1L];exact tick_get HDG.out
 obtain⟨j2,hj2,_⟩:=atI_get hF1s hd1
 have hdn:=(getT_nm hd1).2
 have ht910:Turn [r,gv] w9 w10:=HT93.out.trans ht10 (fun y hy=> .inl (by simp at hy;simp[hy]))
 have HT10:Hid (Turn (r::ob (.slice (some ⟨gv,0,none⟩) R.length vc)) w w10):=hid (HT3.out.trans ht10 (fun y hy=> .inl (by simp at hy;simp[ob,Value.ownBlock,hy])))
 have HSTB10:Hid (St.StrsAt w10 (.slice (some ⟨gb,0,none⟩) b.dropLast.length bc) b.dropLast):=hid (by
  obtain⟨_,_,hv1,_,_,hst⟩:=(KP.out w10 ht910).2.front HBNE.out
  injection hv1 with k1 k2 k3
  injection k1 with k1;injection k1 with k1
  rw[←k1,←k3,HUB.out] at hst;exact hst)
 rw[hr1l] at hX10'
 have HX10:=hid hX10';have HRB1:=hid hrob1';have HR1L:=hid hr1l;have HF1L:=hid hF1L;have HF1C:=hid hF1c;have HF1S:=hid hF1s
 have HJ2:=hid hj2;have HDN:=hid hdn;have HT910:=hid ht910
 have HF1M:Hid (F1.most=F.most∧F1.reads=F.reads):=hid (by rw[hF1];exact⟨rfl,rfl⟩)
 clear hm1 hme1 hX10 hX10' ht10 hrob1 hrob1' hF1 hR1 hF1L hF1c hF1s hd1 hj2 hdn ht910
 go_upto_region 27 with(fail)
 refine mv_r27 _ _ _ _ _ _ _ _ _ _ _ _ _ _ _ _ _ _ _ _ _ _ _ _ _ _ _ _ _ _ _ _ _ _ _ _ _ _ _ _ _ _ _ _ _ _ _ _ _ _ _ _ _ _ _ _ _ _ _ _ _ _ _ _ _ _ _ _ _ _ _ _ _ _ _ _ _ _ _ _ _ _ _ _ _ _ _ _ _ _ _ _ _ _ _ _ _ _ _ _ _ _ _ _ _ _ _ _ _ _ _ _ _ _ _ _ _ _ _ _ _ _ _ _ _ _ _ _ _ _ _ _ _ _ _ _ _ _ _ _ _ _ _ _ _ _ _ _ _ _ _ _ _ _ _ _ _ _ _ _ _ _ _ _ _ _ _ _ _ _ _ _ _ _ _ _ _ _ _ _ _ _ _ _ _ _ _ _ _ _ _ _ _ _ _ _ _ _ _ _ _ _ _ _ _ _ _ _ _ _ _ _ _ _ _ _ _ _ _ _ _ _ _ _ _ (by intro c a a_ w hd h;have h2:a.defers=[]∧_:=h;exact And.intro (hd.symm.trans h2.1) h2.2) (e:=d1) (j:=j2) (by omega) (by rw[←HUB.out];omega) HX10 HSTB10 HF1S HJ2 HDN.out ?_
 intro yH yI yJ yK yL yM yN yO yP yQ yR yS yT w11 h11
 obtain⟨m2,hm2,hme2,hX11,ht11,hrob2⟩:=h11
 obtain⟨F2,hF2⟩:∃ F2:Tr,F2={F1 with L:=F1.L.set j2 {d1 with tick:=(F1.clock:Int)}}:=⟨_,rfl⟩
 obtain⟨R2,hR2⟩:∃ R2,R2=R1.set j2 {m2 with tick:=(F1.clock:Int)}:=⟨_,rfl⟩
 have hX11':RTree B w11 r (.slice (some ⟨gv,0,none⟩) R1.length vc) R2 F2:=by rw[hF2,hR2];exact hX11
 have hr2l:R1.length=R2.length:=by rw[hR2,List.length_set]
 have hF2L:F2.L=tickN [a.dropLast,b.dropLast] ((F.clock+1:Nat):Int) F.L:=by
  rw[hF2];show F1.L.set j2 _=_;rw[set_tick HF1S.out HJ2.out,HDN.out,HF1L.out,HF1C.out,tickN_two]
 have hF2o:F2.clock=F.clock+1∧F2.most=F.most∧F2.reads=F.reads:=by rw[hF2];exact⟨HF1C.out,HF1M.out.1,HF1M.out.2⟩
 have ht911:Turn [r,gv] w9 w11:=HT910.out.trans ht11 (fun y hy=> .inl (by simp at hy;simp[hy]))
 have HT11:Hid (Turn (r::ob (.slice (some ⟨gv,0,none⟩) R.length vc)) w w11):=hid (HT10.out.trans ht11 (fun y hy=> .inl (by simp at hy;simp[ob,Value.ownBlock,hy])))
 have HRB2:Hid (robL R2=robL R):=hid (by rw[hR2,hrob2];exact HRB1.out)
 rw[hr2l] at hX11'
 have HX11:=hid hX11';have HR2L:=hid hr2l;have HF2L:=hid hF2L;have HF2O:=hid hF2o
 have HPA11:=hid (KP.out w11 ht911).1
 have HPB11:=hid (KP.out w11 ht911).2
 have hd2:Hid (∀ m∈R2,m.nm.length≤1000):=hid (fun m hm=>by
  have h1:m.te∈F2.L:=by rw[hX11'.is];exact List.mem_map.2 ⟨m,hm,rfl⟩
  rw[hF2L] at h1
  obtain⟨x,hx,hxe⟩:=List.mem_map.1 h1
  have h2:x.nm=m.nm:=by
   have h3:(if x.nm∈[a.dropLast,b.dropLast] then({x with tick:=((F.clock+1:Nat):Int)}:TE) else x).nm=m.te.nm:=congrArg TE.nm hxe
   split at h3 <;> exact h3
  have:=HG.out.deep x hx
  rw[←h2];exact Nat.le_trans this (by decide))
 clear hm2 hme2 hX11 hX11' ht11 hrob2 hF2 hR2 hF2L hF2o ht911
 go_upto_block 2 with(fail)
 refine mv_b2 _ _ _ _ _ _ _ _ _ _ _ _ _ _ _ _ _ _ _ _ _ _ _ _ _ _ _ _ _ _ _ _ _ _ _ _ _ _ _ _ _ _ _ _ _ _ _ _ _ _ _ _ _ _ _ _ _ _ _ _ _ _ _ _ _ _ _ _ _ _ _ _ _ _ _ _ _ _ _ _ _ _ _ _ _ _ _ _ _ _ _ _ _ _ _ _ _ _ _ _ _ _ _ _ _ _ _ _ _ _ _ _ _ _ _ _ _ _ _ _ _ _ _ _ _ _ _ _ _ _ _ _ _ _ _ _ _ _ _ _ _ _ _ _ _ _ _ _ _ _ _ _ _ _ _ _ _ _ _ _ _ _ _ _ _ _ _ _ _ _ _ _ _ _ _ _ _ _ _ _ _ _ _ _ _ _ _ _ _ _ _ _ _ _ _ _ _ _ _ _ _ _ _ _ _ _ _ _ _ _ _ _ _ _ _ _ _ _ _ _ _ (by intro c a a_ w hd h;have h2:a.defers=[]∧_:=h;exact And.intro (hd.symm.trans h2.1) h2.2) (by omega) (by omega) (by omega) HANE.out HX11 (hid HPA11.out.strs) HPB11 hd2 ?_
 intro jb jc jd je yU yV yW yX yY yZ y0 y1 y2 y3 y4 y5 y6 y7 y8 y9 Ja Jb Jc Jd Je Jf Jg Jh Ji Jj Jk Jl Jm Jn Jo Jp Jq Jr Js Jt Ju Jv w12 h12
 obtain⟨G,hI⟩:=h12
 obtain⟨htree,hgo,hgor,hgn,hgb,hgb2,htE,hst⟩:=rmove_end H.out HBL.out HT11.out (by have h1:=HX11.out;rw[←HR2L.out,←HR1L.out] at h1;exact h1) HRB2.out hI
 have hX12:=HX11.out.below hI.bel
 have c00:w12.cell? ⟨r,0,none⟩=some (.slice (some ⟨gv,0,none⟩) R2.length vc):=cell_of_heap hX12.book
 have f00:w12.frozen? ⟨r,0,none⟩=false:=frozen_of_heap hX12.book
 have hte:=hI.te
 have hst0:=hI.stay
 rw[List.take_length] at hst0
 obtain⟨sa,sc,hsv⟩:=rowS_slice hst0
 have hr2:R2.length=R.length:=by rw[←HR2L.out,←HR1L.out]
 obtain⟨qa,qc,hqv⟩:=rowS_slice hI.go
 subst hsv hqv
 have hgl:G.length≤R2.length:=by
  have h1:=congrArg List.length hte
  rw[List.length_map,List.length_map] at h1
  have h2:(onR a (R2.take R2.length)).length≤(R2.take R2.length).length:=List.length_filter_le _ _
  rw[List.length_take] at h2
  omega
 have hol:=offR_len a R2
 have HTREE:=hid htree;have HGO:=hid hgo;have HGOR:=hid hgor;have HGN:=hid hgn;have HGBB:=hid hgb;have HGB2:=hid hgb2;have HTE:=hid htE;have HSTV:=hid hst
 have HTEL:Hid (putsT (G.map RN.te) (dropT a F2.L)=(moveN p q F).L):=hid (by
  have h1:=HMS.out HC.out
  have h2:(moveN p q F).L=tickN [a.dropLast,b.dropLast] ((F.clock+1:Nat):Int) (moveT a b F.L):=by rw[moveN,←HA.out,←HBQ.out]
  rw[h2] at h1 ⊢
  have hnot:¬ (a.length < b.length∧a <+:b):=fun h=>HNOT.out (.inr ⟨h.1,List.prefix_iff_eq_take.1 h.2⟩)
  have hm:=move_list HG.out.srt HG.out.par HANE.out HBNE.out HGB.out hnot h1 F2.L HF2L.out
  rw[←hm]
  congr 1
  rw[hte,onR_te,HX11.out.is,List.take_length])
 clear htree hgo hgor hgn hgb hgb2 htE hst hI hte hX12 hst0 hr1l hr2l
 go_upto_block 4 with(fail)
 refine mv_b4 _ _ _ _ _ _ _ _ _ _ _ _ _ _ _ _ _ _ _ _ _ _ _ _ _ _ _ _ _ _ _ _ _ _ _ _ _ _ _ _ _ _ _ _ _ _ _ _ _ _ _ _ _ _ _ _ _ _ _ _ _ _ _ _ _ _ _ _ _ _ _ _ _ _ _ _ _ _ _ _ _ _ _ _ _ _ _ _ _ _ _ _ _ _ _ _ _ _ _ _ _ _ _ _ _ _ _ _ _ _ _ _ _ _ _ _ _ _ _ _ _ _ _ _ _ _ _ _ _ _ _ _ _ _ _ _ _ _ _ _ _ _ _ _ _ _ _ _ _ _ _ _ _ _ _ _ _ _ _ _ _ _ _ _ _ _ _ _ _ _ _ _ _ _ _ _ _ _ _ _ _ _ _ _ _ _ _ _ _ _ _ _ _ _ _ _ _ _ _ _ _ _ _ _ _ _ _ _ _ _ _ _ _ _ _ _ _ _ _ _ _ _ _ _ (by intro c a a_ w hd h;have h2:a.defers=[]∧_:=h;exact And.intro (hd.symm.trans h2.1) h2.2) (by omega) HTREE HGO HGOR HGN HGBB (hid (Nat.le_trans HBL.out HTE.out.size)) ?_
 intro jf Jw Jx Jy Jz JA JB JC JD JE JF JG JH w14 h14
 obtain⟨v',htF,htT,htO⟩:=h14
 have FINAL:Hid (RPost B w r (.slice (some ⟨gv,0,none⟩) R.length vc) R (moveN p q F) 0 (.returned (.int .i64 0)) w14):=by
  refine hid ⟨rfl,v',putsR G (offR a R2),?_,HTE.out.trans htT (fun y hy=> .inl (by simp at hy;simp[hy])),fun b hb=>?_,fun b hb=> .inr ((htO b hb).elim (HSTV.out b) (Nat.le_trans HTE.out.size))⟩
  · have hS:moveN p q F={F2 with L:=(moveN p q F).L}:=by
     obtain⟨k1,k2,k3⟩:=HF2O.out
     rw[moveN]
     show Tr.mk _ _ _ _=Tr.mk _ F2.clock F2.most F2.reads
     rw[k1,k2,k3]
    rw[hS,←HTEL.out]
    exact htF
  · rw[rblk,List.mem_cons,List.mem_append] at hb
    rcases hb with rfl|hb|hb
    · exact .inl (by simp[rblk])
    · refine .inr ?_
      rcases htO b hb with h1|h1
      · exact HSTV.out b h1
      · exact Nat.le_trans HTE.out.size h1
    · rcases robL_puts hb with hb|hb
      · obtain⟨m,hm,hb⟩:=List.mem_flatMap.1 hb
        rcases HGB2.out m hm b hb with h1|h1
        · exact .inl (by rw[rblk,List.mem_cons,List.mem_append];exact .inr (.inr h1))
        · exact .inr h1
      · have hb:=offR_rob hb
        rw[HRB2.out] at hb
        exact .inl (by rw[rblk,List.mem_cons,List.mem_append];exact .inr (.inr hb))
 clear htF htT htO
 go_wp2
 go_ret
 exact YES.out _ HC.out FINAL.out
def rxL (s d:List UInt8):Bool→Xs→Xs
 |b,[]=>if b then [] else [(s,d)]
 |b,x::r=>(if !b && !lt x.1 s then [(s,d)] else [])++((if x.1≠s then [x] else [])++rxL s d (b|| !lt x.1 s) r)
def rxD (s:List UInt8) (xs:Xs):Bool:=xs.any fun x=> !lt x.1 s
def rxA (s d:List UInt8):Xs→Xs
 |[]=>[]
 |x::r=>(if !lt x.1 s then [(s,d)] else [])++((if x.1≠s then [x] else [])++(if !lt x.1 s then r.filter (fun y=>decide (y.1≠s)) else rxA s d r))
theorem rxL_done (s d:List UInt8):∀ r:Xs,rxL s d true r=r.filter (fun y=>decide (y.1≠s))
 |[]=>rfl
 |x::r=>by
  rw[rxL,Bool.true_or,rxL_done s d r,List.filter_cons]
  by_cases h:x.1=s <;> simp[h]
theorem rxL_eq (s d:List UInt8):∀ xs:Xs,rxL s d false xs=rxA s d xs++(if rxD s xs then [] else [(s,d)])
 |[]=>rfl
 |x::r=>by
  rw[rxL,rxA,rxD,List.any_cons]
  by_cases h:lt x.1 s=true
  · rw[h,Bool.not_true,Bool.false_or,rxL_eq s d r]
    simp[rxD]
    rfl
  · rw[Bool.not_eq_true] at h
    rw[h,Bool.not_false,Bool.or_true,rxL_done]
    simp
theorem rxD_snoc (s:List UInt8) (xs:Xs) (x:List UInt8×List UInt8):rxD s (xs++[x])=(rxD s xs|| !lt x.1 s):=by
 rw[rxD,List.any_append];simp[rxD]
theorem rxA_snoc (s d:List UInt8) (x:List UInt8×List UInt8):∀ xs:Xs,rxA s d (xs++[x])=rxA s d xs++((if !rxD s xs && !lt x.1 s then [(s,d)] else [])++(if x.1≠s then [x] else []))
 |[]=>by simp[rxA,rxD]
 |y::r=>by
  rw[List.cons_append,rxA,rxA,rxD,List.any_cons]
  by_cases h:lt y.1 s=true
  · rw[h,Bool.not_true,Bool.false_or,rxA_snoc s d x r]
    simp only[rxD,Bool.false_eq_true,if_false,List.nil_append,List.append_assoc]
    rfl
  · rw[Bool.not_eq_true] at h
    rw[h,Bool.not_false,Bool.true_or,Bool.not_true,Bool.false_and,List.filter_append,List.filter_cons]
    by_cases hx:x.1=s <;> simp[hx]
theorem fine_gt {s:List UInt8}:∀ {last:List UInt8} {r:Xs},xsFine last r=true→(lt s last=true∨last=s)→∀ y∈r,lt s y.1=true
 |_,[],_,_=>fun _ hy=>by cases hy
 |last,x::r,h,hl=>fun y hy=>by
  rw[xsFine] at h
  simp only[Bool.and_eq_true] at h
  have h1:lt s x.1=true:=by
   rcases hl with hl|rfl
   · exact lt_trans hl h.2.2.1
   · exact h.2.2.1
  rcases List.mem_cons.1 hy with rfl|hy
  · exact h1
  · exact fine_gt h.2.2.2 (.inl h1) y hy
theorem filter_gt {s:List UInt8} {r:Xs} (h:∀ y∈r,lt s y.1=true):r.filter (fun y=>decide (y.1≠s))=r:=by
 rw[List.filter_eq_self]
 intro y hy
 have:=h y hy
 simp only[ne_eq,decide_not,Bool.not_eq_true',decide_eq_false_iff_not]
 intro e;rw[e,lt_irrefl] at this;cases this
theorem putX_cons (s d:List UInt8) (x:List UInt8×List UInt8) (r:Xs):putX s d (x::r)=if lt x.1 s then x::putX s d r else if x.1=s then(s,d)::r else(s,d)::x::r:=by
 rw[putX,seatB,seatN]
 by_cases h:lt x.1 s=true
 · rw[if_pos h,if_pos h,if_pos h,putX]
   by_cases hb:seatB s r=true
   · rw[if_pos hb,if_pos hb];rfl
   · rw[if_neg hb,if_neg hb,insX,insX];simp
 · rw[if_neg h,if_neg h,if_neg h]
   by_cases he:x.1=s
   · rw[if_pos (by simpa using he),if_pos he];rfl
   · rw[if_neg (by simpa using he),if_neg he];rfl
theorem rx_put (s d:List UInt8):∀ {last:List UInt8} {xs:Xs},xsFine last xs=true→rxL s d false xs=putX s d xs
 |_,[],_=>rfl
 |last,x::r,h=>by
  have h':=h
  rw[xsFine] at h
  simp only[Bool.and_eq_true] at h
  rw[putX_cons,rxL]
  by_cases hl:lt x.1 s=true
  · have hne:x.1≠s:=lt_ne hl
    rw[hl,if_pos rfl,if_pos hne,Bool.not_true,Bool.or_self,rx_put s d h.2.2.2];rfl
  · rw[Bool.not_eq_true] at hl
    rw[hl,if_neg (show ¬ (false=true) from by decide),Bool.not_false,Bool.or_true,Bool.and_self,if_pos rfl,rxL_done]
    by_cases he:x.1=s
    · rw[if_neg (by simpa using he),if_pos he,filter_gt (fine_gt h.2.2.2 (.inr he))];rfl
    · have hg:lt s x.1=true:=by rcases lt_total he with h1|h1
                                · rw[h1] at hl;cases hl
                                · exact h1
      rw[if_pos he,if_neg he,filter_gt (fine_gt h.2.2.2 (.inl hg))];rfl
theorem rxL_mem {s d:List UInt8} {x:List UInt8×List UInt8}:∀ {b:Bool} {xs:Xs},x∈rxL s d b xs→x∈xs∨x=(s,d)
 |b,[],h=>by
  rw[rxL] at h
  cases b
  · exact .inr (by simpa using h)
  · cases h
 |b,y::r,h=>by
  rw[rxL,List.mem_append,List.mem_append] at h
  rcases h with h|h|h
  · split at h
    · exact .inr (by simpa using h)
    · cases h
  · split at h
    · exact .inl (by rw[List.mem_singleton] at h;rw[h];simp)
    · cases h
  · rcases rxL_mem h with h|h
    · exact .inl (List.mem_cons_of_mem _ h)
    · exact .inr h
def rcA (s:List UInt8) (xs:Xs):Xs:=xs.filter fun x=>decide (x.1≠s)
theorem delX_cons (s:List UInt8) (x:List UInt8×List UInt8) (r:Xs):delX (x::r) (seatN s (x::r))=if lt x.1 s then x::delX r (seatN s r) else r:=by
 rw[seatN,delX]
 by_cases h:lt x.1 s=true
 · rw[if_pos h,if_pos h,delX];simp
 · rw[if_neg h,if_neg h];simp
theorem rc_del (s:List UInt8):∀ {last:List UInt8} {xs:Xs},xsFine last xs=true→(seatB s xs=true→rcA s xs=delX xs (seatN s xs))∧(seatB s xs=false→rcA s xs=xs)
 |_,[],_=>⟨fun h=>(by cases h),fun _=>rfl⟩
 |last,x::r,h=>by
  rw[xsFine] at h
  simp only[Bool.and_eq_true] at h
  rw[seatB,delX_cons,rcA,List.filter_cons]
  obtain⟨i1,i2⟩:=rc_del s h.2.2.2
  rw[rcA] at i1 i2
  by_cases hl:lt x.1 s=true
  · have hne:x.1≠s:=lt_ne hl
    rw[if_pos hl,if_pos hl,if_pos (by simpa using hne)]
    exact⟨fun hb=>by rw[i1 hb],fun hb=>by rw[i2 hb]⟩
  · rw[if_neg hl,if_neg hl]
    rw[Bool.not_eq_true] at hl
    by_cases he:x.1=s
    · rw[if_neg (by simpa using he)]
      exact⟨fun _=>filter_gt (fine_gt h.2.2.2 (.inr he)),fun hb=>by simp[he] at hb⟩
    · have hg:lt s x.1=true:=by rcases lt_total he with h1|h1
                                · rw[h1] at hl;cases hl
                                · exact h1
      rw[if_pos (by simpa using he)]
      exact⟨fun hb=>by simp[he] at hb,fun _=>by rw[filter_gt (fine_gt h.2.2.2 (.inl hg))]⟩
theorem rcA_snoc (s:List UInt8) (xs:Xs) (x:List UInt8×List UInt8):rcA s (xs++[x])=rcA s xs++(if x.1≠s then [x] else []):=by
 rw[rcA,rcA,List.filter_append,List.filter_cons]
 by_cases h:x.1=s <;> simp[h]
theorem rcA_len (s:List UInt8) (xs:Xs):(rcA s xs).length≤xs.length:=List.length_filter_le _ _
theorem seat_len {s:List UInt8} {last:List UInt8} {xs:Xs} (h:xsFine last xs=true):((rcA s xs).length=xs.length ↔ seatB s xs=false):=by
 obtain⟨i1,i2⟩:=rc_del s h
 constructor
 · intro hl
   cases hb:seatB s xs with
   |false=>rfl
   |true=>
    have h1:=seatB_lt hb
    rw[i1 hb,delX,List.length_append,List.length_take,List.length_drop] at hl
    omega
 · intro hb;rw[i2 hb]
theorem fine_of_chk {A:XA} (h:chkA A=true):xsFine [] A.xs=true∧A.xs.length≤16:=by
 rw[chkA] at h
 simp only[Bool.and_eq_true,decide_eq_true_eq] at h
 exact⟨h.2.2.2.2.2,h.2.2.2.2.1⟩
theorem rxA_len (s d:List UInt8):∀ xs:Xs,(rxA s d xs).length≤xs.length+1
 |[]=>by simp[rxA]
 |x::r=>by
  rw[rxA,List.length_append,List.length_append,List.length_cons]
  have h1:(if x.1≠s then [x] else []).length≤1:=by split <;> simp
  by_cases h:(!lt x.1 s)=true
  · rw[if_pos h,if_pos h]
    have:=List.length_filter_le (fun y:List UInt8×List UInt8=>decide (y.1≠s)) r
    simp only[List.length_cons,List.length_nil];omega
  · rw[if_neg h,if_neg h]
    have:=rxA_len s d r
    simp only[List.length_nil];omega
end Go.Proofs.YtnmejonfdfdegaaGreatDoor.Sr
