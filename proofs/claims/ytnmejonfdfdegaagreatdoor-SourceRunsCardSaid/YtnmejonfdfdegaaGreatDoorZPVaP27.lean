import Derived.Test.YtnmejonfdfdegaaGreatDoorZPZz
import Derived.Test.YtnmejonfdfdegaaGreatDoorZPSrAsked
set_option linter.unusedSimpArgs false
set_option linter.unusedVariables false
set_option maxHeartbeats 40000000
set_option maxRecDepth 100000
namespace Go.Proofs.YtnmejonfdfdegaaGreatDoor.Sr
open Go.RowKit Go.Maps Go.WideMaps Rf Go.Proofs.YtnmejonfdfdegaaGreatDoor.Nm St
theorem va_p27 {Q:Exit→Act→World→Prop} (u0 u1 u2 u3 u4 u5 u7 u8 u9 jC jD jE jF jG jH jI jJ jK jL jM jN jO jP jQ jR jS jT jU jV jW jX jY jZ j0 j1 j2 j3 j4 j5 j6 j7 j8 j9 ya yb yc yd ye yf yg yh yi yj yk yl ym yn yo yp yq yr yt yu yv yw yx yy yz yA yB yC yD yE yF yG yH yI yJ yK yL yM yN yO yP yQ yR yS yT yU yV yW yX yY yZ y0 y1 y2 y3 y4 y5 y6 y7 y8 y9 Ja Jb Jc Jd Je Jf Jg Jh Ji Jj Jk Jl Jm Jn Jo Jp Jq Jr Js Jt Ju Jv Jw Jx Jy Jz JA JB JC JD JE JF JG JH JI JJ JK JL JM JN JO JP JQ JR JS JT JU JV JW JX JY JZ J0 J1 J2 J3 J4 J5 J6 J7 J8 J9 Ya Yb Yc Yd Ye Yf Yg Yh Yi Yj Yk Yl Ym Yn Yo Yp Yq Yr Ys Yt:Value) {g i wa n c:Nat} {x:RN} {xv:Value} {w:World}
 (hP:∀ c (a a':Act) w,a.defers=a'.defers→Q (.panic c) a w→Q (.panic c) a' w) (hi:i < n) (hn:n≤1000000) (HV:Hid (VaS w g i wa x xv)) (HP:Hid (∀ w',Below w.heap.size w w'→Calls Tryz.prog 42 #[rnV x] w' fun e w2=>e= .returned (.string ⟨(pathN x.nm).toArray⟩)∧Below w'.heap.size w' w2))
 (HK:∀ (ja jb jc jd je jf jg jh ji jj jk jl jm jn jo jp jq jr js jt ju jv jw jx jy jz jA jB:Value) (w':World),VaS w' g i wa x xv∧Below w.heap.size w w'→Q .normal ⟨#[u0,u1,u2,u3,u4,u5,.slice (some ⟨g,0,none⟩) n c,u7,u8,u9,jC,jD,.int .i64 (i:Int),.pointer (some ⟨wa,0,none⟩),jE,jF,jG,jH,jI,jJ,jK,jL,jM,jN,jO,jP,jQ,jR,jS,jT,jU,jV,jW,jX,jY,jZ,j0,j1,j2,j3,j4,j5,j6,j7,j8,j9,ya,yb,yc,yd,ye,yf,yg,yh,yi,yj,yk,yl,ym,yn,yo,yp,yq,yr,yt,yu,yv,yw,yx,yy,yz,yA,yB,yC,yD,yE,yF,yG,yH,yI,yJ,yK,yL,yM,yN,yO,yP,yQ,yR,yS,yT,yU,yV,yW,yX,yY,yZ,y0,y1,y2,y3,y4,y5,y6,y7,y8,y9,Ja,Jb,Jc,Jd,Je,Jf,Jg,Jh,Ji,Jj,Jk,Jl,Jm,Jn,Jo,Jp,Jq,Jr,Js,Jt,Ju,Jv,Jw,Jx,Jy,Jz,JA,JB,JC,JD,JE,JF,JG,JH,JI,JJ,JK,JL,JM,JN,JO,JP,JQ,JR,JS,JT,JU,JV,JW,JX,JY,JZ,J0,ja,jb,jc,jd,je,jf,jg,jh,ji,jj,jk,jl,jm,jn,jo,jp,jq,jr,js,jt,ju,jv,jw,jx,jy,jz,jA,jB,.bool false],[]⟩ w'):
 Code.wp Tryz.prog (vaR 27) Q ⟨#[u0,u1,u2,u3,u4,u5,.slice (some ⟨g,0,none⟩) n c,u7,u8,u9,jC,jD,.int .i64 (i:Int),.pointer (some ⟨wa,0,none⟩),jE,jF,jG,jH,jI,jJ,jK,jL,jM,jN,jO,jP,jQ,jR,jS,jT,jU,jV,jW,jX,jY,jZ,j0,j1,j2,j3,j4,j5,j6,j7,j8,j9,ya,yb,yc,yd,ye,yf,yg,yh,yi,yj,yk,yl,ym,yn,yo,yp,yq,yr,yt,yu,yv,yw,yx,yy,yz,yA,yB,yC,yD,yE,yF,yG,yH,yI,yJ,yK,yL,yM,yN,yO,yP,yQ,yR,yS,yT,yU,yV,yW,yX,yY,yZ,y0,y1,y2,y3,y4,y5,y6,y7,y8,y9,Ja,Jb,Jc,Jd,Je,Jf,Jg,Jh,Ji,Jj,Jk,Jl,Jm,Jn,Jo,Jp,Jq,Jr,Js,Jt,Ju,Jv,Jw,Jx,Jy,Jz,JA,JB,JC,JD,JE,JF,JG,JH,JI,JJ,JK,JL,JM,JN,JO,JP,JQ,JR,JS,JT,JU,JV,JW,JX,JY,JZ,J0,J1,J2,J3,J4,J5,J6,J7,J8,J9,Ya,Yb,Yc,Yd,Ye,Yf,Yg,Yh,Yi,Yj,Yk,Yl,Ym,Yn,Yo,Yp,Yq,Yr,Ys,Yt],[]⟩ w:=by
 have HKH:=Lib.hid HK
 clear HK
 conv=>arg 2;whnf
 unfold rnV at HP
 have hil:(i:Int) < (n:Int):=by omega
 have h0:(0:Int)≤(i:Int):=by omega
 refine wp_region_held_drew (S:=(fun w':World=>VaS w' g i wa x xv)) (by kernel_rfl) (HV.out.below (Below.refl _ _).drew) (fun zh=>?_)
 iterate 5
  first|refine' tj 0 rfl rfl (pz hP) ?_ zh ?_|refine' tj 1 rfl rfl (pz hP) ?_ zh ?_|refine' tj 2 rfl rfl (pz hP) ?_ zh ?_|refine' tj 3 rfl rfl (pz hP) ?_ zh ?_|refine' tj 4 rfl rfl (pz hP) ?_ zh ?_
  rotate_left
  · intro wS hS;obtain⟨c0,c8,c9,c10,d8,d9,d10⟩:=hS.cells;go_simp;try rfl
  try simp only[Act.put,zA,zB,zC,zD,zE,zF]
 refine' wpAnyH_take (i:=5) (v:=_) rfl (by kernel_rfl) (by kernel_rfl) (by kernel_rfl) (pz hP) (yieldsIf_load_mid (by rfl) _ _ rfl wa 0 rfl x.cells _ ?x275S ?x275u ?x275d ?x275i) zh ?x275x
 case x275S=>intro wS hS;exact hS.varR
 case x275u=>exact Tryz.underlying86
 case x275d=>rfl
 case x275i=>exact (infoRnS x)
 try simp only[Act.put,zA,zB,zC,zD,zE,zF]
 refine wpAnyH_ready (rs:=[6]) (by kernel_rfl) (by simp) ?_
 refine AllReadyH.cons rfl (fun K hK=>?_) AllReadyH.nil
 go_simp
 refine(HP.out _ (Below.refl _ _).drew).mono ?_
 rintro ez w3 ⟨rfl,hb3⟩
 have HB3:Hid (Below w.heap.size w w3):=Lib.hid ((Below.refl _ w).drew.trans hb3)
 have HV3:=Lib.hid (HV.out.below HB3.out)
 clear hb3
 go_wp2_with fail
 refine hK.out _ _ HV3.out ?_
 clear hK K zh
 intro zh
 try simp only[Act.put,zA,zB,zC,zD,zE,zF]
 iterate 6
  first|refine' tj 7 rfl rfl (pz hP) ?_ zh ?_|refine' tj 8 rfl rfl (pz hP) ?_ zh ?_|refine' tj 9 rfl rfl (pz hP) ?_ zh ?_|refine' tj 10 rfl rfl (pz hP) ?_ zh ?_|refine' tj 11 rfl rfl (pz hP) ?_ zh ?_|refine' tj 12 rfl rfl (pz hP) ?_ zh ?_
  rotate_left
  · intro wS hS;obtain⟨c0,c8,c9,c10,d8,d9,d10⟩:=hS.cells;go_simp;try rfl
  try simp only[Act.put,zA,zB,zC,zD,zE,zF]
 refine' wpAnyH_take (i:=13) (v:=_) rfl (by kernel_rfl) (by kernel_rfl) (by kernel_rfl) (pz hP) (yieldsIf_load_mid (by rfl) _ _ rfl g (i*11+1) rfl (x.at_.cells xv) _ ?x2713S ?x2713u ?x2713d ?x2713i) zh ?x2713x
 case x2713S=>intro wS hS;exact hS.atR
 case x2713u=>exact Tryz.underlying79
 case x2713d=>rfl
 case x2713i=>exact (infoAt _ _)
 try simp only[Act.put,zA,zB,zC,zD,zE,zF]
 refine' tk 14 rfl (pz hP) ?x2714 zh ?_
 case x2714=>intro wS hS;obtain⟨c0,c8,c9,c10,d8,d9,d10⟩:=hS.cells;go_simp;try rfl
 try simp only[Act.put,zA,zB,zC,zD,zE,zF]
 refine' wpAnyH_take (i:=15) (v:=_) rfl (by kernel_rfl) (by kernel_rfl) (by kernel_rfl) (pz hP) (yieldsIf_load_mid (by rfl) _ _ rfl wa 1 rfl (x.at_.cells x.xv) _ ?x2715S ?x2715u ?x2715d ?x2715i) zh ?x2715x
 case x2715S=>intro wS hS;exact hS.varA
 case x2715u=>exact Tryz.underlying67
 case x2715d=>rfl
 case x2715i=>exact (infoAtR _ _)
 try simp only[Act.put,zA,zB,zC,zD,zE,zF]
 refine wpAnyH_ready (rs:=[16]) (by kernel_rfl) (by simp) ?_
 refine AllReadyH.cons rfl (fun K hK=>?_) AllReadyH.nil
 have AL:=alike18_any w3 x.at_ xv x.xv HV3.out.xs HV3.out.ys
 go_simp
 refine AL.mono ?_
 rintro ez w4 ⟨rfl,hb4⟩
 have HB4:=Lib.hid (HB3.out.trans (hb4.mono HB3.out.size))
 have HV4:=Lib.hid (HV3.out.below hb4)
 clear hb4 AL
 go_wp2_with fail
 refine hK.out _ _ HV4.out ?_
 clear hK K zh
 intro zh
 try simp only[Act.put,zA,zB,zC,zD,zE,zF]
 iterate 12
  first|refine' tj 17 rfl rfl (pz hP) ?_ zh ?_|refine' tj 18 rfl rfl (pz hP) ?_ zh ?_|refine' tj 19 rfl rfl (pz hP) ?_ zh ?_|refine' tj 20 rfl rfl (pz hP) ?_ zh ?_|refine' tj 21 rfl rfl (pz hP) ?_ zh ?_|refine' tj 22 rfl rfl (pz hP) ?_ zh ?_|refine' tj 23 rfl rfl (pz hP) ?_ zh ?_|refine' tj 24 rfl rfl (pz hP) ?_ zh ?_|refine' tj 25 rfl rfl (pz hP) ?_ zh ?_|refine' tj 26 rfl rfl (pz hP) ?_ zh ?_|refine' tj 27 rfl rfl (pz hP) ?_ zh ?_|refine' tj 28 rfl rfl (pz hP) ?_ zh ?_
  rotate_left
  · intro wS hS;obtain⟨c0,c8,c9,c10,d8,d9,d10⟩:=hS.cells;go_simp;try rfl
  try simp only[Act.put,zA,zB,zC,zD,zE,zF]
 refine wpAnyH_done (by kernel_rfl) ?_ _
 clear zh
 try simp only[Act.put,zA,zB,zC,zD,zE,zF]
 exact HKH.out _ _ _ _ _ _ _ _ _ _ _ _ _ _ _ _ _ _ _ _ _ _ _ _ _ _ _ _ w4 ⟨HV4.out,HB4.out⟩
end Go.Proofs.YtnmejonfdfdegaaGreatDoor.Sr
