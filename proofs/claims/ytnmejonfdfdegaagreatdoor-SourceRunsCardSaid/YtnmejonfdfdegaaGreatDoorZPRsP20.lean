import Derived.Test.YtnmejonfdfdegaaGreatDoorZPZz
import Derived.Test.YtnmejonfdfdegaaGreatDoorZPRsKit
import Derived.Test.YtnmejonfdfdegaaGreatDoorZPSrAsked
import Derived.Test.YtnmejonfdfdegaaGreatDoorZPSrNew
import Derived.Test.YtnmejonfdfdegaaGreatDoorRows
import Derived.Test.YtnmejonfdfdegaaGreatDoorZPNmWhole
import Derived.Lib.LaidU8
import Derived.MakeChecks
import Derived.Test.YtnmejonfdfdegaaGreatDoorZPSrTwin
import Derived.Test.YtnmejonfdfdegaaGreatDoorZPRowKit
import Derived.Carry
import Derived.Deep.Slices
import Derived.ChangeSame
import Derived.SizedLaws
set_option linter.unusedSimpArgs false
set_option linter.unusedVariables false
set_option maxHeartbeats 40000000
set_option maxRecDepth 100000
namespace Go.Proofs.YtnmejonfdfdegaaGreatDoor.Sr
open Go.RowKit Go.Maps Go.WideMaps Rf Go.Proofs.YtnmejonfdfdegaaGreatDoor.Nm St
theorem rs_p20 {Q:Exit→Act→World→Prop} (u1 u2 u7 u8 u9 jm jn jo jp jq jr js jt ju jv jw jx jy jz jA jB jC jD jE jF jG jH jI jJ jK jL jM jN jO jP jQ jR jS jT jU jV jW jX jY jZ j0 j1 j2 j3 j4 j5 j6 j7 j8 j9 ya yb yc yd ye yf yg yh yi yj yk yl ym yn yo yp yq yr ys yt yu yv yw yx yy yz yA yB yC yD yE yF yG yH yI yJ yK yL yM yN yO yP yQ yR yS yT yU yV yW yX yY yZ y0 y1 y2 y3 y4 y5 y6 y7 y8 y9 Ja Jb Jc Jd Je:Value) {B bt bm who r r2 q q2 k i n c ba oa:Nat} {T U:Tr} {v v2:Value} {R R2:List RN} {x:Stp} {w:World}
 (hP:∀ c (a a':Act) w,a.defers=a'.defers→Q (.panic c) a w→Q (.panic c) a' w) (hk:k≤850) (hi:i < n) (hn:n≤9223372036854775807) (HQ:Hid (QS B bt bm who w r T q v R r2 U q2 v2 R2 k)) (HT:Hid (∀ w':World,Below B w w'→Tabs w')) (HRG:Hid (∀ w':World,Below B w w'→w'.rangeAt ba (oa+i*11) x.cells)) (HF:Hid (x.Fits w)) (HUB:Hid (∀ b∈xob x.A.xs x.v,b < B))
 (HK:∀ (ja jb jc jd je jf jg jh ji jj jk jl:Value) (w':World),Below w.heap.size w w'→Q .normal ⟨#[.slice (some ⟨ba,oa,none⟩) n c,u1,u2,.pointer (some ⟨bt,0,none⟩),.pointer (some ⟨bm,0,none⟩),.int .i64 (i:Int),.int .i64 (who:Int),u7,u8,u9,jm,jn,jo,jp,jq,jr,js,jt,ju,jv,jw,jx,jy,jz,jA,jB,jC,jD,jE,jF,jG,jH,jI,jJ,jK,jL,jM,jN,jO,jP,jQ,jR,jS,jT,jU,jV,jW,jX,jY,jZ,j0,j1,j2,j3,j4,j5,j6,j7,j8,j9,ya,yb,yc,yd,ye,yf,yg,yh,yi,yj,yk,yl,ym,yn,yo,yp,yq,yr,ys,yt,yu,yv,yw,yx,yy,yz,yA,yB,yC,yD,yE,yF,yG,yH,yI,yJ,yK,yL,yM,yN,yO,yP,ja,jb,jc,jd,je,jf,jg,jh,ji,jj,jk,jl,.bool false,y3,y4,y5,y6,y7,y8,y9,Ja,Jb,Jc,Jd,Je],[]⟩ w'):
 Code.wp Tryz.prog (rsR 20) Q ⟨#[.slice (some ⟨ba,oa,none⟩) n c,u1,u2,.pointer (some ⟨bt,0,none⟩),.pointer (some ⟨bm,0,none⟩),.int .i64 (i:Int),.int .i64 (who:Int),u7,u8,u9,jm,jn,jo,jp,jq,jr,js,jt,ju,jv,jw,jx,jy,jz,jA,jB,jC,jD,jE,jF,jG,jH,jI,jJ,jK,jL,jM,jN,jO,jP,jQ,jR,jS,jT,jU,jV,jW,jX,jY,jZ,j0,j1,j2,j3,j4,j5,j6,j7,j8,j9,ya,yb,yc,yd,ye,yf,yg,yh,yi,yj,yk,yl,ym,yn,yo,yp,yq,yr,ys,yt,yu,yv,yw,yx,yy,yz,yA,yB,yC,yD,yE,yF,yG,yH,yI,yJ,yK,yL,yM,yN,yO,yP,yQ,yR,yS,yT,yU,yV,yW,yX,yY,yZ,y0,y1,y2,y3,y4,y5,y6,y7,y8,y9,Ja,Jb,Jc,Jd,Je],[]⟩ w:=by
 have HKH:=Lib.hid HK
 clear HK
 conv=>arg 2;whnf
 have hw2:=HQ.out.who2
 have h0:(0:Int)≤(i:Int):=by omega
 have hil:(i:Int) < (n:Int):=by omega
 have hw0:(0:Int)≤(who:Int):=by omega
 have hw1:(who:Int) < 2:=by omega
 have HB:Hid (B≤w.heap.size):=Lib.hid HQ.out.quad.a.size
 have HQD:=Lib.hid (HQ.out.below (Below.refl _ w).drew)
 have HBD:Hid (Below w.heap.size w w.drew):=Lib.hid (Below.refl _ w).drew
 rcases hm:(((i:Int).tmod 7)==0) with _|_
 · have hmod:((i:Int).tmod 7==0)=false:=hm
   clear hm
   refine wp_region_held_drew (S:=(fun w':World=>w'.cell? ⟨bt,who,none⟩=some (.pointer (some ⟨r,0,none⟩))∧w'.cell? ⟨bm,who,none⟩=some (.pointer (some ⟨q,0,none⟩))∧w'.rangeAt ba (oa+i*11) x.cells)) (by kernel_rfl) ⟨(HQD.out).here.1,(HQD.out).here.2,HRG.out _ (HBD.out.mono HB.out)⟩ (fun zh=>?_)
   iterate 4
    first|refine' tj 0 rfl rfl (pz hP) ?_ zh ?_|refine' tj 1 rfl rfl (pz hP) ?_ zh ?_|refine' tj 2 rfl rfl (pz hP) ?_ zh ?_|refine' tj 3 rfl rfl (pz hP) ?_ zh ?_
    rotate_left
    · intro wS hS;obtain⟨k0,k1,k2⟩:=hS;have k3:=k2 2 _ rfl;have k4:=k2 3 _ rfl;clear k2;have hz:=hmod;go_simp;try rfl
    try simp only[Act.put,zA,zB,zC,zD,zE,zF]
   refine tn 4 rfl rfl (pz hP) zh ?_
   try simp only[Act.put,zA,zB,zC,zD,zE,zF]
   refine tn 5 rfl rfl (pz hP) zh ?_
   try simp only[Act.put,zA,zB,zC,zD,zE,zF]
   refine tn 6 rfl rfl (pz hP) zh ?_
   try simp only[Act.put,zA,zB,zC,zD,zE,zF]
   refine tn 7 rfl rfl (pz hP) zh ?_
   try simp only[Act.put,zA,zB,zC,zD,zE,zF]
   refine tn 8 rfl rfl (pz hP) zh ?_
   try simp only[Act.put,zA,zB,zC,zD,zE,zF]
   refine tn 9 rfl rfl (pz hP) zh ?_
   try simp only[Act.put,zA,zB,zC,zD,zE,zF]
   refine tn 10 rfl rfl (pz hP) zh ?_
   try simp only[Act.put,zA,zB,zC,zD,zE,zF]
   refine tn 11 rfl rfl (pz hP) zh ?_
   try simp only[Act.put,zA,zB,zC,zD,zE,zF]
   refine' tk 12 rfl (pz hP) ?z20f12 zh ?_
   case z20f12=>intro wS hS;obtain⟨k0,k1,k2⟩:=hS;have k3:=k2 2 _ rfl;have k4:=k2 3 _ rfl;clear k2;have hz:=hmod;go_simp;try rfl
   try simp only[Act.put,zA,zB,zC,zD,zE,zF]
   refine wpAnyH_done (by kernel_rfl) ?_ _
   clear zh
   try simp only[Act.put,zA,zB,zC,zD,zE,zF]
   exact HKH.out _ _ _ _ _ _ _ _ _ _ _ _ w.drew HBD.out
 · have hmod:((i:Int).tmod 7==0)=true:=hm
   clear hm
   have VA:=value18_any B k w.drew r q T v R HQD.out.quad.a HQ.out.ga (by omega) (fun w2 hb2=>HT.out w2 ((HBD.out.mono HB.out).trans hb2))
   unfold ptr at VA
   have VA:=Lib.hid VA
   refine wp_region_held_drew (S:=(fun w':World=>w'.cell? ⟨bt,who,none⟩=some (.pointer (some ⟨r,0,none⟩))∧w'.cell? ⟨bm,who,none⟩=some (.pointer (some ⟨q,0,none⟩))∧w'.rangeAt ba (oa+i*11) x.cells)) (by kernel_rfl) ⟨(HQD.out).here.1,(HQD.out).here.2,HRG.out _ (HBD.out.mono HB.out)⟩ (fun zh=>?_)
   iterate 10
    first|refine' tj 0 rfl rfl (pz hP) ?_ zh ?_|refine' tj 1 rfl rfl (pz hP) ?_ zh ?_|refine' tj 2 rfl rfl (pz hP) ?_ zh ?_|refine' tj 3 rfl rfl (pz hP) ?_ zh ?_|refine' tj 4 rfl rfl (pz hP) ?_ zh ?_|refine' tj 5 rfl rfl (pz hP) ?_ zh ?_|refine' tj 6 rfl rfl (pz hP) ?_ zh ?_|refine' tj 7 rfl rfl (pz hP) ?_ zh ?_|refine' tj 8 rfl rfl (pz hP) ?_ zh ?_|refine' tj 9 rfl rfl (pz hP) ?_ zh ?_
    rotate_left
    · intro wS hS;obtain⟨k0,k1,k2⟩:=hS;have k3:=k2 2 _ rfl;have k4:=k2 3 _ rfl;clear k2;have hz:=hmod;go_simp;try rfl
    try simp only[Act.put,zA,zB,zC,zD,zE,zF]
   refine wpAnyH_ready (rs:=[10]) (by kernel_rfl) (by simp) ?_
   refine AllReadyH.cons rfl (fun K hK=>?_) AllReadyH.nil
   go_simp
   refine VA.out.mono ?_
   rintro ez w3 ⟨rfl,hb3⟩
   have HB3:Hid (Below w.heap.size w w3):=Lib.hid (HBD.out.trans hb3)
   clear hb3
   go_wp2_with fail
   refine hK.out _ _ ⟨(HQ.out.below HB3.out).here.1,(HQ.out.below HB3.out).here.2,HRG.out _ (HB3.out.mono HB.out)⟩ ?_
   clear hK K zh
   intro zh
   try simp only[Act.put,zA,zB,zC,zD,zE,zF]
   iterate 2
    first|refine' tj 11 rfl rfl (pz hP) ?_ zh ?_|refine' tj 12 rfl rfl (pz hP) ?_ zh ?_
    rotate_left
    · intro wS hS;obtain⟨k0,k1,k2⟩:=hS;have k3:=k2 2 _ rfl;have k4:=k2 3 _ rfl;clear k2;have hz:=hmod;go_simp;try rfl
    try simp only[Act.put,zA,zB,zC,zD,zE,zF]
   refine wpAnyH_done (by kernel_rfl) ?_ _
   clear zh
   try simp only[Act.put,zA,zB,zC,zD,zE,zF]
   exact HKH.out _ _ _ _ _ _ _ _ _ _ _ _ w3 HB3.out
end Go.Proofs.YtnmejonfdfdegaaGreatDoor.Sr
namespace Go.Proofs.YtnmejonfdfdegaaGreatDoor.Sr
open Go.RowKit Go.Maps Go.WideMaps Rf Go.Proofs.YtnmejonfdfdegaaGreatDoor.Nm St
open Lib (hid)
theorem rs_b1 {Q:Exit→Act→World→Prop} (u1 u2 u6 u7 u8 u9 yw yx yy yz yA yB yC yD yE yF yG yH yI yJ yK yL yM yN yO yP yQ yR yS yT yU yV yW yX yY yZ y0 y1 y2 y3 y4 y5 y6 y7 y8 y9 Ja Jb Jc Jd Je Jf Jg Jh Ji Jj Jk Jl Jm Jn Jo Jp Jq Jr Js Jt Ju Jv Jw Jx Jy Jz JA JB JC JD JE JF JG JH JI JJ JK JL JM JN JO JP JQ JR JS JT JU JV JW JX JY JZ J0 J1 J2 J3 J4 J5 J6 J7 J8 J9 Ya Yb Yc Yd Ye Yf Yg Yh Yi Yj Yk Yl Ym Yn Yo:Value) {B bt bm r r2 q q2 k i n c ba oa:Nat} {T U:Tr} {v v2:Value} {R R2:List RN} {x:Stp} {w:World}
 (hP:∀ c (a a':Act) w,a.defers=a'.defers→Q (.panic c) a w→Q (.panic c) a' w) (hk:k≤840) (hi:i < n) (hn:n≤9223372036854775807) (HQ:Hid (QS B bt bm 0 w r T q v R r2 U q2 v2 R2 k)) (HT:Hid (∀ w':World,Below B w w'→Tabs w')) (HRG:Hid (∀ w':World,Below B w w'→w'.rangeAt ba (oa+i*11) x.cells)) (HF:Hid (x.Fits w)) (HUB:Hid (∀ b∈xob x.A.xs x.v,b < B))
 (HK:∀ (t6 ja jb jc jd je jf jg jh ji jj jk jl jm jn jo jp jq jr js jt ju jv jw jx jy jz jA jB jC jD jE jF jG jH jI jJ jK jL jM jN jO jP jQ jR jS jT jU jV jW jX jY jZ j0 j1 j2 j3 j4 j5 j6 j7 j8 j9 ya yb yc yd ye yf yg yh yi yj yk yl ym yn yo yp yq yr ys yt yu yv:Value) (w':World),(∃ r T q v R r2 U q2 v2 R2,QS B bt bm 0 w' r T q v R r2 U q2 v2 R2 (k+1)∧Below B w w')→Q .normal ⟨#[.slice (some ⟨ba,oa,none⟩) n c,u1,u2,.pointer (some ⟨bt,0,none⟩),.pointer (some ⟨bm,0,none⟩),.int .i64 (i:Int),t6,u7,u8,u9,yw,yx,yy,yz,yA,yB,yC,yD,yE,yF,yG,yH,yI,yJ,yK,yL,yM,yN,yO,yP,yQ,ja,jb,jc,jd,je,jf,jg,jh,ji,jj,jk,jl,jm,jn,jo,jp,jq,jr,js,jt,ju,jv,jw,jx,jy,jz,jA,jB,jC,jD,jE,jF,jG,jH,jI,jJ,jK,jL,jM,jN,jO,jP,jQ,jR,jS,jT,jU,jV,jW,jX,jY,jZ,j0,j1,j2,j3,j4,j5,j6,j7,j8,j9,ya,yb,yc,yd,ye,yf,yg,yh,yi,yj,yk,yl,ym,yn,yo,yp,yq,yr,ys,yt,yu,yv,Yd,Ye,Yf,Yg,Yh,Yi,Yj,Yk,Yl,Ym,Yn,Yo],[]⟩ w'):
 Code.wp Tryz.prog (rsB 1) Q ⟨#[.slice (some ⟨ba,oa,none⟩) n c,u1,u2,.pointer (some ⟨bt,0,none⟩),.pointer (some ⟨bm,0,none⟩),.int .i64 (i:Int),u6,u7,u8,u9,yw,yx,yy,yz,yA,yB,yC,yD,yE,yF,yG,yH,yI,yJ,yK,yL,yM,yN,yO,yP,yQ,yR,yS,yT,yU,yV,yW,yX,yY,yZ,y0,y1,y2,y3,y4,y5,y6,y7,y8,y9,Ja,Jb,Jc,Jd,Je,Jf,Jg,Jh,Ji,Jj,Jk,Jl,Jm,Jn,Jo,Jp,Jq,Jr,Js,Jt,Ju,Jv,Jw,Jx,Jy,Jz,JA,JB,JC,JD,JE,JF,JG,JH,JI,JJ,JK,JL,JM,JN,JO,JP,JQ,JR,JS,JT,JU,JV,JW,JX,JY,JZ,J0,J1,J2,J3,J4,J5,J6,J7,J8,J9,Ya,Yb,Yc,Yd,Ye,Yf,Yg,Yh,Yi,Yj,Yk,Yl,Ym,Yn,Yo],[]⟩ w:=by
 have HKH:=hid HK
 clear HK
 conv=>arg 2;whnf
 have h0:(0:Int)≤(i:Int):=by omega
 have hil:(i:Int) < (n:Int):=by omega
 have HB:Hid (B≤w.heap.size):=hid HQ.out.quad.a.size
 have hrg:=HRG.out w (Below.refl _ _)
 have hk0:w.cell? ⟨ba,oa+i*11,none⟩=some (.int .i64 x.kind):=hrg 0 _ rfl
 have hk1:w.cell? ⟨ba,oa+i*11+1,none⟩=some (.int .i64 x.who):=hrg 1 _ rfl
 clear hrg
 by_cases hwho:x.who=0
 · have hwh2:((x.who:Int) !=0)=false:=by rw[hwho];rfl
   have hwh3:((x.who:Int)==0)=true:=by rw[beq_iff_eq];exact hwho
   clear hwho
   have HQW:Hid (QS B bt bm 0 w r T q v R r2 U q2 v2 R2 k):=hid (HQ.out)
   by_cases hkd:x.kind=10
   · have TW:=twintree_any B w r T (HQW.out.ga.b.good.fine (by omega)) HQW.out.quad.a.t
     unfold ptr at TW
     have TW:=hid TW
     have hc:=HQW.out.here.1
     unfold ptr at hc
     have hkd2:((x.kind:Int)==10)=true:=by rw[beq_iff_eq];exact hkd
     go_wp2_with fail
     refine TW.out.mono ?_
     rintro ex w1 ⟨r3,U3,rfl,ht,hu,b1⟩
     have HTR:=hid ht;have HU3:=hid hu;have HB1:=hid b1
     have hbt:w1.heap[bt]? =some (.cells (two 0 (ptr r) (ptr r2)).toArray 63):=(b1.block _ (lt_of_heap HQW.out.at_)).trans HQW.out.at_
     have f1:w1.frozen? ⟨bt,1,none⟩=false:=frozen_of_heap hbt
     have g1:w1.cell? ⟨bt,1,none⟩=some (.pointer (some ⟨r2,0,none⟩)):=cell_of_heap hbt
     have HA1:=hid (setCell_heap w1 bt 1 (.pointer (some ⟨r3,0,none⟩)) _ _ hbt)
     have HT1:Hid (Turn [bt] w1 (w1.setCell ⟨bt,1,none⟩ (.pointer (some ⟨r3,0,none⟩)))):=hid ((Turn.refl [bt] w1).setCell (p:=⟨bt,1,none⟩) (.inl (List.mem_singleton.2 rfl)) _)
     have HH:=hid (HQW.out.half b1 HT1.out)
     have RT:=rtwin_any B _ q v R T.bare k (goodF_of HQW.out.quad.a.t HQW.out.ga.b.good) (by omega) HH.out.2.2 HH.out.1.f
     unfold ptr at RT
     unfold RTwinP at RT
     have RT:=hid RT
     have m1:(w1.setCell ⟨bt,1,none⟩ (.pointer (some ⟨r3,0,none⟩))).cell? ⟨bm,0,none⟩=some (.pointer (some ⟨q,0,none⟩)):=cell_of_heap HH.out.2.1
     clear ht hu b1 hbt TW hc
     go_wp2_with fail
     refine RT.out.mono ?_
     rintro ex w3 ⟨q3,v3,R3,rfl,hf,hq3,hs3,b3⟩
     have HF3:=hid hf;have HQ3:=hid hq3;have HS3:=hid hs3;have HB3:=hid b3
     have hbm:w3.heap[bm]? =some (.cells (two 0 (ptr q) (ptr q2)).toArray 64):=(b3.block _ (lt_of_heap HH.out.2.1)).trans HH.out.2.1
     have f3:w3.frozen? ⟨bm,1,none⟩=false:=frozen_of_heap hbm
     have g3:w3.cell? ⟨bm,1,none⟩=some (.pointer (some ⟨q2,0,none⟩)):=cell_of_heap hbm
     have HA3:=hid (setCell_heap w3 bm 1 (.pointer (some ⟨q3,0,none⟩)) _ _ hbm)
     have HT3:Hid (Turn [bm] w3 (w3.setCell ⟨bm,1,none⟩ (.pointer (some ⟨q3,0,none⟩)))):=hid ((Turn.refl [bm] w3).setCell (p:=⟨bm,1,none⟩) (.inl (List.mem_singleton.2 rfl)) _)
     obtain⟨hqs,hbb⟩:=HQW.out.twin HTR.out HU3.out HB1.out HT1.out HA1.out rfl HF3.out HQ3.out HS3.out HB3.out HT3.out HA3.out rfl
     have HQA:=hid hqs
     have HBA:Hid (Below B w (w3.setCell ⟨bm,1,none⟩ (.pointer (some ⟨q3,0,none⟩)))):=hid hbb
     have e5:(w3.setCell ⟨bm,1,none⟩ (.pointer (some ⟨q3,0,none⟩))).cell? ⟨bt,1,none⟩=some (.pointer (some ⟨r3,0,none⟩)):=cell_of_heap hqs.at_
     clear hf hq3 hs3 b3 hbm hqs hbb RT m1 f1 g1
     go_upto_region 18 with(fail)
     refine rs_p18 (who:=0) _ _ _ _ _ _ _ _ _ _ _ _ _ _ _ _ _ _ _ _ _ _ _ _ _ _ _ _ _ _ _ _ _ _ _ _ _ _ _ _ _ _ _ _ _ _ _ _ _ _ _ _ _ _ _ _ _ _ _ _ _ _ _ _ _ _ _ _ _ _ _ _ _ _ _ _ _ _ _ _ _ _ _ _ _ _ _ _ _ _ _ _ _ _ _ _ _ _ _ _ _ _ _ _ _ _ _ _ _ _ _ _ _ _ _ _ _ _ _ _ _ _ (by first|exact hP|(intro c a a_ w hd h;exact hP _ _ _ _ hd h)) (k:=k+1) (by omega) hi hn HQA (hid (fun w2 hb=>HT.out w2 (HBA.out.trans hb))) (hid (fun w2 hb=>HRG.out w2 (HBA.out.trans hb))) (hid (HF.out.far HUB.out HBA.out)) HUB ?_
     intro jR jS jT jU jV jW jX jY jZ j0 j1 j2 j3 j4 j5 j6 j7 j8 j9 ya yb yc yd ye yf yg yh wb hbb
     have HQb:=hid (HQA.out.below hbb)
     have HBb:Hid (Below B w wb):=hid (HBA.out.trans (hbb.mono HQA.out.quad.a.size))
     clear hbb
     go_upto_region 20 with(fail)
     refine rs_p20 (who:=0) _ _ _ _ _ _ _ _ _ _ _ _ _ _ _ _ _ _ _ _ _ _ _ _ _ _ _ _ _ _ _ _ _ _ _ _ _ _ _ _ _ _ _ _ _ _ _ _ _ _ _ _ _ _ _ _ _ _ _ _ _ _ _ _ _ _ _ _ _ _ _ _ _ _ _ _ _ _ _ _ _ _ _ _ _ _ _ _ _ _ _ _ _ _ _ _ _ _ _ _ _ _ _ _ _ _ _ _ _ _ _ _ _ _ _ _ _ _ _ _ _ _ (by first|exact hP|(intro c a a_ w hd h;exact hP _ _ _ _ hd h)) (k:=k+1) (by omega) hi hn HQb (hid (fun w2 hb=>HT.out w2 (HBb.out.trans hb))) (hid (fun w2 hb=>HRG.out w2 (HBb.out.trans hb))) (hid (HF.out.far HUB.out HBb.out)) HUB ?_
     intro yj yk yl ym yn yo yp yq yr ys yt yu wc hbc
     have HQc:=hid (HQb.out.below hbc)
     have HBc:Hid (Below B w wc):=hid (HBb.out.trans (hbc.mono HQb.out.quad.a.size))
     clear hbc
     go_wp2
     exact HKH.out _ _ _ _ _ _ _ _ _ _ _ _ _ _ _ _ _ _ _ _ _ _ _ _ _ _ _ _ _ _ _ _ _ _ _ _ _ _ _ _ _ _ _ _ _ _ _ _ _ _ _ _ _ _ _ _ _ _ _ _ _ _ _ _ _ _ _ _ _ _ _ _ _ _ _ _ _ _ _ _ _ _ _ _ _ wc ⟨_,_,_,_,_,_,_,_,_,_,HQc.out,HBc.out⟩
   · have hkd2:((x.kind:Int)==10)=false:=by rw[beq_eq_false_iff_ne];exact hkd
     go_upto_region 16 with(fail)
     refine rs_p16 (who:=0) _ _ _ _ _ _ _ _ _ _ _ _ _ _ _ _ _ _ _ _ _ _ _ _ _ _ _ _ _ _ _ _ _ _ _ _ _ _ _ _ _ _ _ _ _ _ _ _ _ _ _ _ _ _ _ _ _ _ _ _ _ _ _ _ _ _ _ _ _ _ _ _ _ _ _ _ _ _ _ _ _ _ _ _ _ _ _ _ _ _ _ _ _ _ _ _ _ _ _ _ _ _ _ _ _ _ _ _ _ _ _ _ _ _ _ _ _ _ _ _ _ _ (by first|exact hP|(intro c a a_ w hd h;exact hP _ _ _ _ hd h)) (k:=k) (by omega) hi hn HQW HT HRG HF HUB ?_
     intro jF jG jH jI jJ jK jL jM jN jO jP w3 h3
     obtain⟨T3,v3,R3,h3,hb3⟩:=h3
     have HQA:=hid h3
     have HBA:Hid (Below B w w3):=hid hb3
     clear h3 hb3
     go_upto_region 18 with(fail)
     refine rs_p18 (who:=0) _ _ _ _ _ _ _ _ _ _ _ _ _ _ _ _ _ _ _ _ _ _ _ _ _ _ _ _ _ _ _ _ _ _ _ _ _ _ _ _ _ _ _ _ _ _ _ _ _ _ _ _ _ _ _ _ _ _ _ _ _ _ _ _ _ _ _ _ _ _ _ _ _ _ _ _ _ _ _ _ _ _ _ _ _ _ _ _ _ _ _ _ _ _ _ _ _ _ _ _ _ _ _ _ _ _ _ _ _ _ _ _ _ _ _ _ _ _ _ _ _ _ (by first|exact hP|(intro c a a_ w hd h;exact hP _ _ _ _ hd h)) (k:=k+1) (by omega) hi hn HQA (hid (fun w2 hb=>HT.out w2 (HBA.out.trans hb))) (hid (fun w2 hb=>HRG.out w2 (HBA.out.trans hb))) (hid (HF.out.far HUB.out HBA.out)) HUB ?_
     intro jR jS jT jU jV jW jX jY jZ j0 j1 j2 j3 j4 j5 j6 j7 j8 j9 ya yb yc yd ye yf yg yh wb hbb
     have HQb:=hid (HQA.out.below hbb)
     have HBb:Hid (Below B w wb):=hid (HBA.out.trans (hbb.mono HQA.out.quad.a.size))
     clear hbb
     go_upto_region 20 with(fail)
     refine rs_p20 (who:=0) _ _ _ _ _ _ _ _ _ _ _ _ _ _ _ _ _ _ _ _ _ _ _ _ _ _ _ _ _ _ _ _ _ _ _ _ _ _ _ _ _ _ _ _ _ _ _ _ _ _ _ _ _ _ _ _ _ _ _ _ _ _ _ _ _ _ _ _ _ _ _ _ _ _ _ _ _ _ _ _ _ _ _ _ _ _ _ _ _ _ _ _ _ _ _ _ _ _ _ _ _ _ _ _ _ _ _ _ _ _ _ _ _ _ _ _ _ _ _ _ _ _ (by first|exact hP|(intro c a a_ w hd h;exact hP _ _ _ _ hd h)) (k:=k+1) (by omega) hi hn HQb (hid (fun w2 hb=>HT.out w2 (HBb.out.trans hb))) (hid (fun w2 hb=>HRG.out w2 (HBb.out.trans hb))) (hid (HF.out.far HUB.out HBb.out)) HUB ?_
     intro yj yk yl ym yn yo yp yq yr ys yt yu wc hbc
     have HQc:=hid (HQb.out.below hbc)
     have HBc:Hid (Below B w wc):=hid (HBb.out.trans (hbc.mono HQb.out.quad.a.size))
     clear hbc
     go_wp2
     exact HKH.out _ _ _ _ _ _ _ _ _ _ _ _ _ _ _ _ _ _ _ _ _ _ _ _ _ _ _ _ _ _ _ _ _ _ _ _ _ _ _ _ _ _ _ _ _ _ _ _ _ _ _ _ _ _ _ _ _ _ _ _ _ _ _ _ _ _ _ _ _ _ _ _ _ _ _ _ _ _ _ _ _ _ _ _ _ wc ⟨_,_,_,_,_,_,_,_,_,_,HQc.out,HBc.out⟩
 · have hwh2:((x.who:Int) !=0)=true:=by rw[bne_iff_ne];exact hwho
   have hwh3:((x.who:Int)==0)=false:=by rw[beq_eq_false_iff_ne];exact hwho
   clear hwho
   have HQW:Hid (QS B bt bm 1 w r2 U q2 v2 R2 r T q v R k):=hid (HQ.out.swap)
   by_cases hkd:x.kind=10
   · have TW:=twintree_any B w r2 U (HQW.out.ga.b.good.fine (by omega)) HQW.out.quad.a.t
     unfold ptr at TW
     have TW:=hid TW
     have hc:=HQW.out.here.1
     unfold ptr at hc
     have hkd2:((x.kind:Int)==10)=true:=by rw[beq_iff_eq];exact hkd
     go_wp2_with fail
     refine TW.out.mono ?_
     rintro ex w1 ⟨r3,U3,rfl,ht,hu,b1⟩
     have HTR:=hid ht;have HU3:=hid hu;have HB1:=hid b1
     have hbt:w1.heap[bt]? =some (.cells (two 1 (ptr r2) (ptr r)).toArray 63):=(b1.block _ (lt_of_heap HQW.out.at_)).trans HQW.out.at_
     have f1:w1.frozen? ⟨bt,0,none⟩=false:=frozen_of_heap hbt
     have g1:w1.cell? ⟨bt,0,none⟩=some (.pointer (some ⟨r,0,none⟩)):=cell_of_heap hbt
     have HA1:=hid (setCell_heap w1 bt 0 (.pointer (some ⟨r3,0,none⟩)) _ _ hbt)
     have HT1:Hid (Turn [bt] w1 (w1.setCell ⟨bt,0,none⟩ (.pointer (some ⟨r3,0,none⟩)))):=hid ((Turn.refl [bt] w1).setCell (p:=⟨bt,0,none⟩) (.inl (List.mem_singleton.2 rfl)) _)
     have HH:=hid (HQW.out.half b1 HT1.out)
     have RT:=rtwin_any B _ q2 v2 R2 U.bare k (goodF_of HQW.out.quad.a.t HQW.out.ga.b.good) (by omega) HH.out.2.2 HH.out.1.f
     unfold ptr at RT
     unfold RTwinP at RT
     have RT:=hid RT
     have m1:(w1.setCell ⟨bt,0,none⟩ (.pointer (some ⟨r3,0,none⟩))).cell? ⟨bm,1,none⟩=some (.pointer (some ⟨q2,0,none⟩)):=cell_of_heap HH.out.2.1
     clear ht hu b1 hbt TW hc
     go_wp2_with fail
     refine RT.out.mono ?_
     rintro ex w3 ⟨q3,v3,R3,rfl,hf,hq3,hs3,b3⟩
     have HF3:=hid hf;have HQ3:=hid hq3;have HS3:=hid hs3;have HB3:=hid b3
     have hbm:w3.heap[bm]? =some (.cells (two 1 (ptr q2) (ptr q)).toArray 64):=(b3.block _ (lt_of_heap HH.out.2.1)).trans HH.out.2.1
     have f3:w3.frozen? ⟨bm,0,none⟩=false:=frozen_of_heap hbm
     have g3:w3.cell? ⟨bm,0,none⟩=some (.pointer (some ⟨q,0,none⟩)):=cell_of_heap hbm
     have HA3:=hid (setCell_heap w3 bm 0 (.pointer (some ⟨q3,0,none⟩)) _ _ hbm)
     have HT3:Hid (Turn [bm] w3 (w3.setCell ⟨bm,0,none⟩ (.pointer (some ⟨q3,0,none⟩)))):=hid ((Turn.refl [bm] w3).setCell (p:=⟨bm,0,none⟩) (.inl (List.mem_singleton.2 rfl)) _)
     obtain⟨hqs,hbb⟩:=HQW.out.twin HTR.out HU3.out HB1.out HT1.out HA1.out rfl HF3.out HQ3.out HS3.out HB3.out HT3.out HA3.out rfl
     have HQA:=hid hqs
     have HBA:Hid (Below B w (w3.setCell ⟨bm,0,none⟩ (.pointer (some ⟨q3,0,none⟩)))):=hid hbb
     have e5:(w3.setCell ⟨bm,0,none⟩ (.pointer (some ⟨q3,0,none⟩))).cell? ⟨bt,0,none⟩=some (.pointer (some ⟨r3,0,none⟩)):=cell_of_heap hqs.at_
     clear hf hq3 hs3 b3 hbm hqs hbb RT m1 f1 g1
     go_upto_region 18 with(fail)
     refine rs_p18 (who:=1) _ _ _ _ _ _ _ _ _ _ _ _ _ _ _ _ _ _ _ _ _ _ _ _ _ _ _ _ _ _ _ _ _ _ _ _ _ _ _ _ _ _ _ _ _ _ _ _ _ _ _ _ _ _ _ _ _ _ _ _ _ _ _ _ _ _ _ _ _ _ _ _ _ _ _ _ _ _ _ _ _ _ _ _ _ _ _ _ _ _ _ _ _ _ _ _ _ _ _ _ _ _ _ _ _ _ _ _ _ _ _ _ _ _ _ _ _ _ _ _ _ _ (by first|exact hP|(intro c a a_ w hd h;exact hP _ _ _ _ hd h)) (k:=k+1) (by omega) hi hn HQA (hid (fun w2 hb=>HT.out w2 (HBA.out.trans hb))) (hid (fun w2 hb=>HRG.out w2 (HBA.out.trans hb))) (hid (HF.out.far HUB.out HBA.out)) HUB ?_
     intro jR jS jT jU jV jW jX jY jZ j0 j1 j2 j3 j4 j5 j6 j7 j8 j9 ya yb yc yd ye yf yg yh wb hbb
     have HQb:=hid (HQA.out.below hbb)
     have HBb:Hid (Below B w wb):=hid (HBA.out.trans (hbb.mono HQA.out.quad.a.size))
     clear hbb
     go_upto_region 20 with(fail)
     refine rs_p20 (who:=1) _ _ _ _ _ _ _ _ _ _ _ _ _ _ _ _ _ _ _ _ _ _ _ _ _ _ _ _ _ _ _ _ _ _ _ _ _ _ _ _ _ _ _ _ _ _ _ _ _ _ _ _ _ _ _ _ _ _ _ _ _ _ _ _ _ _ _ _ _ _ _ _ _ _ _ _ _ _ _ _ _ _ _ _ _ _ _ _ _ _ _ _ _ _ _ _ _ _ _ _ _ _ _ _ _ _ _ _ _ _ _ _ _ _ _ _ _ _ _ _ _ _ (by first|exact hP|(intro c a a_ w hd h;exact hP _ _ _ _ hd h)) (k:=k+1) (by omega) hi hn HQb (hid (fun w2 hb=>HT.out w2 (HBb.out.trans hb))) (hid (fun w2 hb=>HRG.out w2 (HBb.out.trans hb))) (hid (HF.out.far HUB.out HBb.out)) HUB ?_
     intro yj yk yl ym yn yo yp yq yr ys yt yu wc hbc
     have HQc:=hid (HQb.out.below hbc)
     have HBc:Hid (Below B w wc):=hid (HBb.out.trans (hbc.mono HQb.out.quad.a.size))
     clear hbc
     go_wp2
     exact HKH.out _ _ _ _ _ _ _ _ _ _ _ _ _ _ _ _ _ _ _ _ _ _ _ _ _ _ _ _ _ _ _ _ _ _ _ _ _ _ _ _ _ _ _ _ _ _ _ _ _ _ _ _ _ _ _ _ _ _ _ _ _ _ _ _ _ _ _ _ _ _ _ _ _ _ _ _ _ _ _ _ _ _ _ _ _ wc ⟨_,_,_,_,_,_,_,_,_,_,HQc.out.swap,HBc.out⟩
   · have hkd2:((x.kind:Int)==10)=false:=by rw[beq_eq_false_iff_ne];exact hkd
     go_upto_region 16 with(fail)
     refine rs_p16 (who:=1) _ _ _ _ _ _ _ _ _ _ _ _ _ _ _ _ _ _ _ _ _ _ _ _ _ _ _ _ _ _ _ _ _ _ _ _ _ _ _ _ _ _ _ _ _ _ _ _ _ _ _ _ _ _ _ _ _ _ _ _ _ _ _ _ _ _ _ _ _ _ _ _ _ _ _ _ _ _ _ _ _ _ _ _ _ _ _ _ _ _ _ _ _ _ _ _ _ _ _ _ _ _ _ _ _ _ _ _ _ _ _ _ _ _ _ _ _ _ _ _ _ _ (by first|exact hP|(intro c a a_ w hd h;exact hP _ _ _ _ hd h)) (k:=k) (by omega) hi hn HQW HT HRG HF HUB ?_
     intro jF jG jH jI jJ jK jL jM jN jO jP w3 h3
     obtain⟨T3,v3,R3,h3,hb3⟩:=h3
     have HQA:=hid h3
     have HBA:Hid (Below B w w3):=hid hb3
     clear h3 hb3
     go_upto_region 18 with(fail)
     refine rs_p18 (who:=1) _ _ _ _ _ _ _ _ _ _ _ _ _ _ _ _ _ _ _ _ _ _ _ _ _ _ _ _ _ _ _ _ _ _ _ _ _ _ _ _ _ _ _ _ _ _ _ _ _ _ _ _ _ _ _ _ _ _ _ _ _ _ _ _ _ _ _ _ _ _ _ _ _ _ _ _ _ _ _ _ _ _ _ _ _ _ _ _ _ _ _ _ _ _ _ _ _ _ _ _ _ _ _ _ _ _ _ _ _ _ _ _ _ _ _ _ _ _ _ _ _ _ (by first|exact hP|(intro c a a_ w hd h;exact hP _ _ _ _ hd h)) (k:=k+1) (by omega) hi hn HQA (hid (fun w2 hb=>HT.out w2 (HBA.out.trans hb))) (hid (fun w2 hb=>HRG.out w2 (HBA.out.trans hb))) (hid (HF.out.far HUB.out HBA.out)) HUB ?_
     intro jR jS jT jU jV jW jX jY jZ j0 j1 j2 j3 j4 j5 j6 j7 j8 j9 ya yb yc yd ye yf yg yh wb hbb
     have HQb:=hid (HQA.out.below hbb)
     have HBb:Hid (Below B w wb):=hid (HBA.out.trans (hbb.mono HQA.out.quad.a.size))
     clear hbb
     go_upto_region 20 with(fail)
     refine rs_p20 (who:=1) _ _ _ _ _ _ _ _ _ _ _ _ _ _ _ _ _ _ _ _ _ _ _ _ _ _ _ _ _ _ _ _ _ _ _ _ _ _ _ _ _ _ _ _ _ _ _ _ _ _ _ _ _ _ _ _ _ _ _ _ _ _ _ _ _ _ _ _ _ _ _ _ _ _ _ _ _ _ _ _ _ _ _ _ _ _ _ _ _ _ _ _ _ _ _ _ _ _ _ _ _ _ _ _ _ _ _ _ _ _ _ _ _ _ _ _ _ _ _ _ _ _ (by first|exact hP|(intro c a a_ w hd h;exact hP _ _ _ _ hd h)) (k:=k+1) (by omega) hi hn HQb (hid (fun w2 hb=>HT.out w2 (HBb.out.trans hb))) (hid (fun w2 hb=>HRG.out w2 (HBb.out.trans hb))) (hid (HF.out.far HUB.out HBb.out)) HUB ?_
     intro yj yk yl ym yn yo yp yq yr ys yt yu wc hbc
     have HQc:=hid (HQb.out.below hbc)
     have HBc:Hid (Below B w wc):=hid (HBb.out.trans (hbc.mono HQb.out.quad.a.size))
     clear hbc
     go_wp2
     exact HKH.out _ _ _ _ _ _ _ _ _ _ _ _ _ _ _ _ _ _ _ _ _ _ _ _ _ _ _ _ _ _ _ _ _ _ _ _ _ _ _ _ _ _ _ _ _ _ _ _ _ _ _ _ _ _ _ _ _ _ _ _ _ _ _ _ _ _ _ _ _ _ _ _ _ _ _ _ _ _ _ _ _ _ _ _ _ wc ⟨_,_,_,_,_,_,_,_,_,_,HQc.out.swap,HBc.out⟩
theorem rs_b0 {Q:Exit→Act→World→Prop} (u1 u2 u6 u7 u8 u9 yG yH yI yJ yK yL yM yN yO yP yQ yR yS yT yU yV yW yX yY yZ y0 y1 y2 y3 y4 y5 y6 y7 y8 y9 Ja Jb Jc Jd Je Jf Jg Jh Ji Jj Jk Jl Jm Jn Jo Jp Jq Jr Js Jt Ju Jv Jw Jx Jy Jz JA JB JC JD JE JF JG JH JI JJ JK JL JM JN JO JP JQ JR JS JT JU JV JW JX JY JZ J0 J1 J2 J3 J4 J5 J6 J7 J8 J9 Ya Yb Yc Yd Ye Yf Yg Yh Yi Yj Yk Yl Ym Yn Yo Yp Yq Yr Ys Yt Yu Yv Yw Yx Yy:Value) {bt bm r r2 q q2 cap:Nat} {a:Option Addr} {l:List Stp} {T U:Tr} {v v2:Value} {R R2:List RN} {w wr:World}
 (hP:∀ c (a a':Act) w,a.defers=a'.defers→Q (.panic c) a w→Q (.panic c) a' w) (hlm:l.length≤9223372036854775807) (HC:Hid (l≠[]→∃ b o,a=some ⟨b,o,none⟩∧b < w.heap.size∧∀ (i:Nat) x,l[i]? =some x→x.At w b (o+i*11))) (HF:Hid (∀ x∈l,x.Fits w)) (HT:Hid (∀ w':World,Below w.heap.size w w'→Tabs w')) (HQ:Hid (QS w.heap.size bt bm 0 wr r T q v R r2 U q2 v2 R2 0)) (HBW:Hid (Below w.heap.size w wr))
 (HK:∀ (t2 t5 t6 ja jb jc jd je jf jg jh ji jj jk jl jm jn jo jp jq jr js jt ju jv jw jx jy jz jA jB jC jD jE jF jG jH jI jJ jK jL jM jN jO jP jQ jR jS jT jU jV jW jX jY jZ j0 j1 j2 j3 j4 j5 j6 j7 j8 j9 ya yb yc yd ye yf yg yh yi yj yk yl ym yn yo yp yq yr ys yt yu yv yw yx yy yz yA yB yC yD yE yF:Value) (w':World),(∃ i r T q v R r2 U q2 v2 R2,i≤120∧QS w.heap.size bt bm 0 w' r T q v R r2 U q2 v2 R2 i∧Below w.heap.size w w')→Q .normal ⟨#[.slice a l.length cap,u1,t2,.pointer (some ⟨bt,0,none⟩),.pointer (some ⟨bm,0,none⟩),t5,t6,u7,u8,u9,yG,yH,yI,yJ,yK,yL,yM,yN,yO,yP,yQ,ja,jb,jc,jd,je,jf,jg,jh,ji,jj,jk,jl,jm,jn,jo,jp,jq,jr,js,jt,ju,jv,jw,jx,jy,jz,jA,jB,jC,jD,jE,jF,jG,jH,jI,jJ,jK,jL,jM,jN,jO,jP,jQ,jR,jS,jT,jU,jV,jW,jX,jY,jZ,j0,j1,j2,j3,j4,j5,j6,j7,j8,j9,ya,yb,yc,yd,ye,yf,yg,yh,yi,yj,yk,yl,ym,yn,yo,yp,yq,yr,ys,yt,yu,yv,yw,yx,yy,yz,yA,yB,yC,yD,yE,yF,Yn,Yo,Yp,Yq,Yr,Ys,Yt,Yu,Yv,Yw,Yx,Yy],[]⟩ w'):
 Code.wp Tryz.prog (rsB 0) Q ⟨#[.slice a l.length cap,u1,u2,.pointer (some ⟨bt,0,none⟩),.pointer (some ⟨bm,0,none⟩),.int .i64 0,u6,u7,u8,u9,yG,yH,yI,yJ,yK,yL,yM,yN,yO,yP,yQ,yR,yS,yT,yU,yV,yW,yX,yY,yZ,y0,y1,y2,y3,y4,y5,y6,y7,y8,y9,Ja,Jb,Jc,Jd,Je,Jf,Jg,Jh,Ji,Jj,Jk,Jl,Jm,Jn,Jo,Jp,Jq,Jr,Js,Jt,Ju,Jv,Jw,Jx,Jy,Jz,JA,JB,JC,JD,JE,JF,JG,JH,JI,JJ,JK,JL,JM,JN,JO,JP,JQ,JR,JS,JT,JU,JV,JW,JX,JY,JZ,J0,J1,J2,J3,J4,J5,J6,J7,J8,J9,Ya,Yb,Yc,Yd,Ye,Yf,Yg,Yh,Yi,Yj,Yk,Yl,Ym,Yn,Yo,Yp,Yq,Yr,Ys,Yt,Yu,Yv,Yw,Yx,Yy],[]⟩ wr:=by
 have HKH:=Lib.hid HK
 clear HK
 conv=>arg 2;whnf
 go_wp2
 go_loopw [5] (fun v5 ws=>∃ i:Nat,i≤l.length∧i≤120∧v5= .int .i64 (i:Int)∧∃ r T q v R r2 U q2 v2 R2,Hid (QS w.heap.size bt bm 0 ws r T q v R r2 U q2 v2 R2 i)∧Hid (Below w.heap.size w ws)) (fun v5 _=>l.length - (RowKit.intOf v5).toNat)
 case atStart=>exact ⟨0,by omega,by omega,rfl,r,T,q,v,R,r2,U,q2,v2,R2,HQ,HBW⟩
 case round=>
  rename World=>ws
  clear HQ HBW
  obtain⟨i,hi,hi1,rfl,r,T,q,v,R,r2,U,q2,v2,R2,HQ,HBW⟩:=hrel
  by_cases hil:(i:Int) < (l.length:Int)
  · by_cases hi6:(i:Int) < 120
    · have hi2:i < l.length:=by omega
      obtain⟨x,hx⟩:∃ x,l[i]? =some x:=⟨_,List.getElem?_eq_getElem hi2⟩
      obtain⟨ba,oa,rfl,hba,hca⟩:=HC.out (fun h=>by rw[h] at hi2;cases hi2)
      have hfx:=HF.out x (List.mem_of_getElem? hx)
      have HRG:Hid (∀ w':World,Below w.heap.size ws w'→w'.rangeAt ba (oa+i*11) x.cells):=Lib.hid (fun w' hb j u hj=>((HBW.out.trans hb).cell (p:=⟨ba,oa+i*11+j,none⟩) hba).trans (hca i x hx j u hj))
      have HFX:Hid (x.Fits ws):=Lib.hid (hfx.far (fun b hb=>hfx.xs.lt b hb) HBW.out)
      have HUX:Hid (∀ b∈xob x.A.xs x.v,b < w.heap.size):=Lib.hid (fun b hb=>hfx.xs.lt b hb)
      have HTW:Hid (∀ w':World,Below w.heap.size ws w'→Tabs w'):=Lib.hid (fun w' hb=>HT.out w' (HBW.out.trans hb))
      clear hx hca hfx
      go_upto_block 1 with(fail)
      refine rs_b1 _ _ _ _ _ _ _ _ _ _ _ _ _ _ _ _ _ _ _ _ _ _ _ _ _ _ _ _ _ _ _ _ _ _ _ _ _ _ _ _ _ _ _ _ _ _ _ _ _ _ _ _ _ _ _ _ _ _ _ _ _ _ _ _ _ _ _ _ _ _ _ _ _ _ _ _ _ _ _ _ _ _ _ _ _ _ _ _ _ _ _ _ _ _ _ _ _ _ _ _ _ _ _ _ _ _ _ _ _ _ _ _ _ _ _ _ _ _ _ _ _ _ _ (by first|exact hP|(intro c a a_ w hd h;exact hP _ _ _ _ hd h)) (k:=i) (by omega) hi2 hlm HQ HTW HRG HFX HUX ?_
      intro t6 jk jl jm jn jo jp jq jr js jt ju jv jw jx jy jz jA jB jC jD jE jF jG jH jI jJ jK jL jM jN jO jP jQ jR jS jT jU jV jW jX jY jZ j0 j1 j2 j3 j4 j5 j6 j7 j8 j9 ya yb yc yd ye yf yg yh yi yj yk yl ym yn yo yp yq yr ys yt yu yv yw yx yy yz yA yB yC yD yE yF w4 h4
      obtain⟨r,T,q,v,R,r2,U,q2,v2,R2,hq,hb⟩:=h4
      have HQ4:=Lib.hid hq
      have HB4:Hid (Below w.heap.size w w4):=Lib.hid (HBW.out.trans hb)
      clear hq hb
      go_wp2
      go_roundw
      case rel=>exact ⟨i+1,by omega,by omega,by go_num,r,T,q,v,R,r2,U,q2,v2,R2,HQ4,HB4⟩
      case measure=>simp [RowKit.intOf];omega
    · go_wp2
      exact HKH.out _ _ _ _ _ _ _ _ _ _ _ _ _ _ _ _ _ _ _ _ _ _ _ _ _ _ _ _ _ _ _ _ _ _ _ _ _ _ _ _ _ _ _ _ _ _ _ _ _ _ _ _ _ _ _ _ _ _ _ _ _ _ _ _ _ _ _ _ _ _ _ _ _ _ _ _ _ _ _ _ _ _ _ _ _ _ _ _ _ _ _ _ _ _ _ _ _ ws ⟨i,r,T,q,v,R,r2,U,q2,v2,R2,hi1,HQ.out,HBW.out⟩
  · go_wp2
    exact HKH.out _ _ _ _ _ _ _ _ _ _ _ _ _ _ _ _ _ _ _ _ _ _ _ _ _ _ _ _ _ _ _ _ _ _ _ _ _ _ _ _ _ _ _ _ _ _ _ _ _ _ _ _ _ _ _ _ _ _ _ _ _ _ _ _ _ _ _ _ _ _ _ _ _ _ _ _ _ _ _ _ _ _ _ _ _ _ _ _ _ _ _ _ _ _ _ _ _ ws ⟨i,r,T,q,v,R,r2,U,q2,v2,R2,hi1,HQ.out,HBW.out⟩
theorem rs18_law (w:World) (v0:Value) (l:List Stp) (hT:Tabs w) (hl:StpsAt w v0 l):
 Calls Tryz.prog 4 #[v0] w fun e w'=>e= .returned (.bool true)∧Below w.heap.size w w':=by
 obtain⟨a,cap,rfl,hlm,hcell,hfit⟩:=hl
 have HC:=hid hcell;have HF:=hid hfit
 have HTT:Hid (∀ w':World,Below w.heap.size w w'→Tabs w'):=hid (fun w' hb=>hT.below hb)
 have TN1:=hid (tree_new w)
 unfold maxLen at hlm
 clear hcell hfit hT
 go_enter Tryz.func4,Tryz.ntmps4
 go_wp2_with fail
 refine TN1.out.mono ?_
 rintro ex w1 ⟨r1,pn1,mm1,rfl,t1,b1⟩
 have HT1:=hid t1;have HB1:=hid b1
 have TN2:=hid (tree_new w1)
 clear t1 b1 TN1
 unfold ptr at*
 go_wp2_with fail
 refine TN2.out.mono ?_
 rintro ex w2 ⟨r2,pn2,mm2,rfl,t2,b2⟩
 have HT2:=hid t2;have HB2:=hid b2
 obtain⟨w3,hw3⟩:∃ w3,w3=w2.alloc (.cells (two 0 (ptr r1) (ptr r2)).toArray 63):=⟨_,rfl⟩
 have HW3:=hid hw3
 have RN1:=hid (rnew_any w3)
 clear t2 b2 TN2 hw3
 unfold ptr at*
 go_wp2_with fail
 change Calls _ _ _ (w2.alloc (.cells (two 0 (.pointer (some ⟨r1,0,none⟩)) (.pointer (some ⟨r2,0,none⟩))).toArray 63)) _
 rw[←HW3.out]
 refine RN1.out.mono ?_
 rintro ex w4 ⟨q1,v1,R1,rfl,f1,b4,g1⟩
 have HF1:=hid f1;have HB4:=hid b4;have HG1:=hid g1
 have RN2:=rnew_any w4
 unfold ptr at RN2
 have RN2:=hid RN2
 clear f1 b4 g1 RN1
 go_wp2_with fail
 refine RN2.out.mono ?_
 rintro ex w5 ⟨q2,v2,R2,rfl,f2,b5,g2⟩
 obtain⟨w6,hw6⟩:∃ w6,w6=w5.alloc (.cells (two 0 (ptr q1) (ptr q2)).toArray 64):=⟨_,rfl⟩
 obtain⟨hqs,hbw⟩:=qs_new HT1.out HB1.out HT2.out HB2.out HW3.out HF1.out HB4.out HG1.out f2 b5 g2 hw6
 have HQ:=hid hqs;have HBW:=hid hbw
 have HW6:=hid hw6
 have c0:w6.cell? ⟨w2.heap.size,0,none⟩=some (.pointer (some ⟨r1,0,none⟩)):=cell_of_heap hqs.at_
 have c1:w6.cell? ⟨w2.heap.size,1,none⟩=some (.pointer (some ⟨r2,0,none⟩)):=cell_of_heap hqs.at_
 clear f2 b5 g2 RN2 hqs hbw hw6
 unfold ptr at HW6
 go_upto_region 3 with(fail)
 change Code.wp _ _ _ _ (w5.alloc (.cells (two 0 (.pointer (some ⟨q1,0,none⟩)) (.pointer (some ⟨q2,0,none⟩))).toArray 64))
 rw[←HW6.out]
 go_upto_block 0 with(fail)
 refine rs_b0 _ _ _ _ _ _ _ _ _ _ _ _ _ _ _ _ _ _ _ _ _ _ _ _ _ _ _ _ _ _ _ _ _ _ _ _ _ _ _ _ _ _ _ _ _ _ _ _ _ _ _ _ _ _ _ _ _ _ _ _ _ _ _ _ _ _ _ _ _ _ _ _ _ _ _ _ _ _ _ _ _ _ _ _ _ _ _ _ _ _ _ _ _ _ _ _ _ _ _ _ _ _ _ _ _ _ _ _ _ _ _ _ _ _ _ _ _ _ _ _ _ _ _ (by intro c a a_ w hd h;have h2:a.defers=[]∧_:=h;exact And.intro (hd.symm.trans h2.1) h2.2) hlm HC HF HTT HQ HBW ?_
 intro t2 t5 t6 ja jb jc jd je jf jg jh ji jj jk jl jm jn jo jp jq jr js jt ju jv jw jx jy jz jA jB jC jD jE jF jG jH jI jJ jK jL jM jN jO jP jQ jR jS jT jU jV jW jX jY jZ j0 j1 j2 j3 j4 j5 j6 j7 j8 j9 ya yb yc yd ye yf yg yh yi yj yk yl ym yn yo yp yq yr ys yt yu yv yw yx yy yz yA yB yC yD yE yF w7 h7
 obtain⟨k,r,T,q,v,R,r2,U,q2,v2,R2,hk,hq,hb⟩:=h7
 have HQ7:=hid hq;have HB7:=hid hb
 have K1:=value18_any w.heap.size k w7 r q T v R hq.quad.a hq.ga (by omega) (fun w' hb2=>HTT.out w' (hb.trans hb2))
 have K2:Hid (∀ w':World,Below w7.heap.size w7 w'→Calls Tryz.prog 22 #[.pointer (some ⟨r2,0,none⟩),.pointer (some ⟨q2,0,none⟩)] w' fun e w2=>e= .returned (.bool true)∧Below w'.heap.size w' w2):=hid (fun w' hb2=>value18_any w.heap.size k w' r2 q2 U v2 R2 (hq.below hb2).quad.b hq.gb (by omega) (fun w2 hb3=>HTT.out w2 ((hb.trans (hb2.mono hq.quad.a.size)).trans hb3)))
 have KC:Hid (∀ w':World,Below w7.heap.size w7 w'→w'.cell? ⟨w2.heap.size,1,none⟩=some (.pointer (some ⟨r2,0,none⟩))∧w'.cell? ⟨w5.heap.size,1,none⟩=some (.pointer (some ⟨q2,0,none⟩))):=hid (fun w' hb2=>⟨cell_of_heap (hq.below hb2).at_,cell_of_heap (hq.below hb2).am⟩)
 have d0:=hq.here.1
 have d1:=hq.here.2
 unfold ptr at K1 d0 d1
 have K1:=hid K1
 clear hq hb c0 c1
 go_wp2_with fail
 refine K1.out.mono ?_
 rintro ex w8 ⟨rfl,hb8⟩
 obtain⟨e0,e1⟩:=KC.out w8 hb8
 have HB8:=hid hb8
 have K2:=hid (K2.out w8 hb8)
 clear hb8 K1 d0 d1
 go_wp2_with fail
 refine K2.out.mono ?_
 rintro ex w9 ⟨rfl,hb9⟩
 have HB9:Hid (Below w.heap.size w w9):=hid ((HB7.out.trans (HB8.out.mono HB7.out.size)).trans (hb9.mono (Nat.le_trans HB7.out.size HB8.out.size)))
 clear hb9 K2
 go_wp2
 go_ret
 exact⟨rfl,HB9.out⟩
end Go.Proofs.YtnmejonfdfdegaaGreatDoor.Sr
namespace Go.Proofs.YtnmejonfdfdegaaGreatDoor.Nm
open Go.Lib
theorem gFirst : Tryz.prog.globalNamed "unicode/utf8.first" = some 1 := by kernel_rfl
theorem gAccept : Tryz.prog.globalNamed "unicode/utf8.acceptRanges" = some 2 := by kernel_rfl
theorem tFirst:(Tryz.prog.globals[1]?).map (·.type)=some 200:=by kernel_rfl
theorem tAccept:(Tryz.prog.globals[2]?).map (·.type)=some 203:=by kernel_rfl
theorem cU8:Tryz.prog.cellsOf 5=1:=by kernel_rfl
theorem cFirst:Tryz.prog.cellsOf 200=256:=by kernel_rfl
theorem cRange:Tryz.prog.cellsOf 202=2:=by kernel_rfl
theorem firstIs:Rows.laid_unicode_utf8_first=firstData:=by kernel_rfl
theorem acceptIs:(Rows.laid_unicode_utf8_acceptRanges:DataW Unit)=acceptData:=by kernel_rfl
theorem tabs_of_reads {w : World} (h3 : VarReads Tryz.prog w "unicode/utf8.first" firstData) (h4 : VarReads Tryz.prog w "unicode/utf8.acceptRanges" acceptData) : Tabs w := by
 refine⟨fun c hc=>?_,fun i hi=>?_⟩
 · obtain⟨g,t,cs,fuel,p,hg,hty,hvar,hd⟩:=h3
   obtain rfl:=Option.some.inj (gFirst.symm.trans hg)
   obtain rfl:=Option.some.inj (tFirst.symm.trans hty)
   have hcs:=cells_of_tab Tryz.underlying200 Tryz.underlying5 cU8 cFirst hd
   have:=World.var?_cell hg hvar c
   rw[this,←Array.getElem?_toList,hcs]
   simp[firstTab,hc]
 · obtain⟨g,t,cs,fuel,p,hg,hty,hvar,hd⟩:=h4
   obtain rfl:=Option.some.inj (gAccept.symm.trans hg)
   obtain rfl:=Option.some.inj (tAccept.symm.trans hty)
   obtain⟨fuel',d,q,hdi,he⟩:=array_elem Tryz.underlying203 hd i hi
   simp only[List.getElem?_map,List.getElem?_range hi,Option.map_some,Option.some.injEq] at hdi
   subst hdi
   rw[cRange] at he
   have hcs:=ints_of_struct Tryz.underlying202 (fun j f hj=>by
    match j,hj with
    |0,hj=>simp at hj;subst hj;exact⟨Tryz.underlying5,rfl,cU8⟩
    |1,hj=>simp at hj;subst hj;exact⟨Tryz.underlying5,rfl,cU8⟩
    |j+2,hj=>simp at hj) (by rw[cRange];rfl) he
   have e0:=congrArg (·[0]?) hcs
   have e1:=congrArg (·[1]?) hcs
   simp only[List.getElem?_take,List.getElem?_drop] at e0 e1
   constructor
   · rw[World.var?_cell hg hvar (2*i),←Array.getElem?_toList]
     simpa [Nat.mul_comm] using e0
   · rw[World.var?_cell hg hvar (2*i+1),←Array.getElem?_toList]
     simpa [Nat.mul_comm] using e1
theorem tabs_of_laid {W:World} {l:List (String×DataW Unit)} (h:laidMetH Tryz.prog l W) (hp:(l.all fun x=>x.2.handleName?.isNone)=true)
 (h1 : ("unicode/utf8.first", Rows.laid_unicode_utf8_first) ∈ l) (h2 : ("unicode/utf8.acceptRanges", Rows.laid_unicode_utf8_acceptRanges) ∈ l) : Tabs W := by
 rw[Go.MakeChecks.laidMetH_plain _ _ _ hp] at h
 exact tabs_of_reads (firstIs ▸ laidMet.reads h h1) (acceptIs ▸ laidMet.reads h h2)
end Go.Proofs.YtnmejonfdfdegaaGreatDoor.Nm
namespace Go.Proofs.YtnmejonfdfdegaaGreatDoor.Sr
open Go.RowKit Go.ChangeShapes Go.WideShapes Go.Deep Rf Go.Proofs.YtnmejonfdfdegaaGreatDoor.Nm St Rd
set_option linter.unusedSimpArgs false
section
variable {H:Type} {enc:TypeId×Value→H} {w:World} {base:Nat} {spare:Nat→Bool} {held:Bool}
theorem all_mem {l:List Nat} (h:l.all (·≤reachBytes)=true) {x:Nat} (hx:x∈l):x≤140737488351232:=by
 have:=List.all_eq_true.1 h x hx
 have h2:reachBytes≤140737488351232:=by decide
 simp only[decide_eq_true_eq] at this
 omega
theorem all_sub {l m:List Nat} (h:l.all (·≤reachBytes)=true) (hm:∀ x∈m,x∈l):m.all (·≤reachBytes)=true:=
 List.all_eq_true.2 (fun x hx=>List.all_eq_true.1 h x (hm x hx))
theorem weights_all {P:Program} {e:TypeId} {x:Nat}:∀ {l:List (DataW H)} {i:Nat} {d:DataW H},l[i]? =some d→x∈DataW.weights P e d→x∈DataW.weightsAll P e l
 |[],_,_,h,_=>by simp at h
 |y::r,0,d,h,hx=>by
  simp at h;subst h
  simp[DataW.weightsAll,hx]
 |y::r,i+1,d,h,hx=>by
  have:=weights_all (l:=r) (by simpa using h) hx
  simp[DataW.weightsAll,this]
theorem open_xattr {n:Nat} {cs:List Value} {y:DataW H×List MemPlace} (h:DataW.trod enc Tryz.prog w base spare held n 147 cs=some y):
 ∃ x:List UInt8×List UInt8,cs=xpair x∧x.1.length≤maxLen∧x.2.length≤maxLen:=by
 obtain⟨xs,m,_,rfl,hl,hxl,hf⟩:=DataW.trod_struct Tryz.underlying147 h
 have k9:Tryz.prog.cellsOf 9=1:=by kernel_rfl
 have k33:Tryz.prog.cellsOf 147=2:=by kernel_rfl
 rw[k33] at hl
 match xs,hxl with
 |[y0,y1],_=>
  match cs,hl with
  |[e0,e1],_=>
   have h0:=hf 0 _ rfl
   have h1:=hf 1 _ rfl
   simp only[k9,List.drop_zero,List.drop_succ_cons,List.take_succ_cons,List.take_zero,List.getElem?_cons_zero,List.getElem?_cons_succ] at h0 h1
   obtain⟨q0,r0,_,s0⟩:=DataW.trod_string Tryz.underlying9 h0
   obtain⟨q1,r1,_,s1⟩:=DataW.trod_string Tryz.underlying9 h1
   injection r0 with r0;injection r1 with r1
   refine⟨(q0.data.toList,q1.data.toList),?_,by show q0.data.toList.length≤_;rw[←Lib.size_eq];exact s0,by show q1.data.toList.length≤_;rw[←Lib.size_eq];exact s1⟩
   simp only[xpair,ba_mk]
   rw[r0,r1]
theorem open_xats {n:Nat} {v:Value} {y:DataW H×List MemPlace} (h:DataW.trod enc Tryz.prog w base spare held n 65 [v]=some y) (hz:(DataW.weights Tryz.prog 65 y.1).all (·≤reachBytes)=true):
 ∃ xs:Xs,XsAt w v xs∧xs.length*32≤140737488351232:=by
 have k34:Tryz.prog.cellsOf 147=2:=by kernel_rfl
 have kb:Tryz.prog.bytesOf 147=32:=by kernel_rfl
 rcases open_slice Tryz.underlying65 h with⟨hcs,_⟩|⟨a,len,cap,m,n',D,Pl,hcs,_,hl,hm,hmm,hx,hi⟩
 · injection hcs with hcs
   exact⟨[],⟨none,0,hcs,by simp,by simp,fun hne=>absurd rfl hne⟩,by simp⟩
 · injection hcs with hcs
   rw[k34] at hi
   have hlm:len≤m:=by rw[hmm];split <;> omega
   have hw:(len+(m - len))*32≤140737488351232:=by
    refine all_mem hz ?_
    rw[hx];simp[DataW.weights,Tryz.underlying65,kb]
   have hspot:0 < len→a.spot=none:=fun hp=>by
    obtain⟨cs',hc,ht⟩:=hi 0 (by omega)
    obtain⟨x,rfl,_⟩:=open_xattr ht
    obtain⟨_,_,hat⟩:=World.cells?_some hc
    have:=World.cell?_spot ((hat 0 (by simp[xpair])).trans rfl)
    simpa [Addr.add] using this
   have hex:∀ i:Nat,∃ x:List UInt8×List UInt8,i < len→x.1.length≤maxLen∧x.2.length≤maxLen∧a.spot=none∧a.block < w.heap.size∧w.rangeAt a.block (a.off+i*2) (xpair x):=by
    intro i
    by_cases hlt:i < len
    · obtain⟨cs',hc,ht⟩:=hi i (by omega)
      obtain⟨x,rfl,hx1,hx2⟩:=open_xattr ht
      obtain⟨_,_,hat⟩:=World.cells?_some hc
      have g0:=hat 0 (by simp[xpair])
      have hsp:a.spot=none:=hspot (by omega)
      have hadd:∀ j,(a.add (i*2)).add j=⟨a.block,a.off+i*2+j,none⟩:=fun j=>by
       rw[add_add]
       obtain⟨ab,ao,asp⟩:=a
       simp only at hsp
       subst hsp
       unfold Addr.add
       split
       · next h=>
         have h1:i*2=0:=by omega
         have h2:j=0:=by omega
         rw[h1,h2];rfl
       · rw[Nat.add_assoc]
      have hbl:a.block < w.heap.size:=by
       have:=World.block_lt_of_cell? w _ (g0.trans rfl)
       rw[hadd] at this
       exact this
      refine⟨x,fun _=>⟨hx1,hx2,hsp,hbl,?_⟩⟩
      intro j v hv
      rw[←hadd]
      exact(hat j (List.getElem?_eq_some_iff.1 hv).1).trans hv
    · exact⟨([],[]),fun h=>absurd h hlt⟩
   obtain⟨g,hg⟩:=Classical.axiomOfChoice hex
   have hln:((List.range len).map g).length=len:=by simp
   have hget:∀ (i:Nat) x,((List.range len).map g)[i]? =some x→i < len∧x=g i:=fun i x hx=>by
    rw[List.getElem?_map] at hx
    by_cases hlt:i < len
    · rw[List.getElem?_range hlt] at hx;exact⟨hlt,(Option.some.inj hx).symm⟩
    · rw[List.getElem?_eq_none (by simp;omega)] at hx;simp at hx
   refine⟨(List.range len).map g,⟨some a,cap,by rw[hln];exact hcs,by rw[hln];unfold maxLen;omega,fun x hx=>?_,fun hne=>?_⟩,by rw[hln];omega⟩
   · obtain⟨i,hi',rfl⟩:=List.mem_map.1 hx
     have:=hg i (List.mem_range.1 hi')
     exact⟨this.1,this.2.1⟩
   · have hpos:0 < len:=by
      rcases Nat.eq_zero_or_pos len with e|e
      · exact absurd (by rw[e];rfl) hne
      · exact e
     obtain⟨_,_,hsp,hbl,_⟩:=hg 0 hpos
     refine⟨a.block,a.off,?_,hbl,fun i x hx=>?_⟩
     · obtain⟨ab,ao,asp⟩:=a
       simp only at hsp
       subst hsp;rfl
     · obtain⟨hlt,rfl⟩:=hget i x hx
       have hr:=(hg i hlt).2.2.2.2
       exact⟨hr 0 _ rfl,hr 1 _ rfl⟩
theorem open_attr {n:Nat} {cs:List Value} {y:DataW H×List MemPlace} (h:DataW.trod enc Tryz.prog w base spare held n 67 cs=some y) (hz:(DataW.weights Tryz.prog 67 y.1).all (·≤reachBytes)=true):
 ∃ (A:XA) (v:Value),cs=A.cells v∧A.target.length≤140737488351232∧XsAt w v A.xs∧A.xs.length*32≤140737488351232:=by
 obtain⟨xs,m,_,rfl,hl,hxl,hf⟩:=DataW.trod_struct Tryz.underlying67 h
 have k2:Tryz.prog.cellsOf 2=1:=by kernel_rfl
 have k9:Tryz.prog.cellsOf 9=1:=by kernel_rfl
 have k5:Tryz.prog.cellsOf 5=1:=by kernel_rfl
 have k6:Tryz.prog.cellsOf 34=1:=by kernel_rfl
 have k7:Tryz.prog.cellsOf 65=1:=by kernel_rfl
 have k33:Tryz.prog.cellsOf 67=7:=by kernel_rfl
 rw[k33] at hl
 match xs,hxl with
 |[y0,y1,y2,y3,y4,y5,y6],_=>
  match cs,hl with
  |[e0,e1,e2,e3,e4,e5,e6],_=>
   have h0:=hf 0 _ rfl
   have h1:=hf 1 _ rfl
   have h2:=hf 2 _ rfl
   have h3:=hf 3 _ rfl
   have h4:=hf 4 _ rfl
   have h5:=hf 5 _ rfl
   have h6:=hf 6 _ rfl
   simp only[k2,k9,k5,k6,k7,List.drop_zero,List.drop_succ_cons,List.take_succ_cons,List.take_zero,List.getElem?_cons_zero,List.getElem?_cons_succ] at h0 h1 h2 h3 h4 h5 h6
   obtain⟨q0,r0,_,s0⟩:=DataW.trod_int Tryz.underlying5 h0
   obtain⟨q1,r1,_,s1⟩:=DataW.trod_int Tryz.underlying34 h1
   obtain⟨q2,r2,_,s2⟩:=DataW.trod_int Tryz.underlying34 h2
   obtain⟨q3,r3,_,s3⟩:=DataW.trod_int Tryz.underlying34 h3
   obtain⟨q4,r4,_,s4⟩:=DataW.trod_int Tryz.underlying2 h4
   obtain⟨q5,r5,t5,_⟩:=DataW.trod_string Tryz.underlying9 h5
   have hz2:(DataW.weightsEach Tryz.prog [5,34,34,34,2,9,65] [y0.1,y1.1,y2.1,y3.1,y4.1,y5.1,y6.1]).all (·≤reachBytes)=true:=by
    have hz':=hz
    simp only[DataW.weights,Tryz.underlying67] at hz'
    exact hz'
   obtain⟨X,hX,hXl⟩:=open_xats h6 (all_sub hz2 (fun z hzm=>DataW.weights_mem_each (j:=6) rfl rfl _ hzm))
   have w5:q5.size≤140737488351232:=by
    refine all_mem hz2 (DataW.weights_mem_each (j:=5) rfl rfl _ ?_)
    rw[t5];simp[DataW.weights,←Lib.size_eq]
   have p0:((q0.toNat:Nat):Int)=q0:=by
    simp[Lit.wf,IntKind.min,IntKind.max,IntKind.signed,IntKind.bits] at s0;omega
   have p1:((q1.toNat:Nat):Int)=q1:=by
    simp[Lit.wf,IntKind.min,IntKind.max,IntKind.signed,IntKind.bits] at s1;omega
   have p2:((q2.toNat:Nat):Int)=q2:=by
    simp[Lit.wf,IntKind.min,IntKind.max,IntKind.signed,IntKind.bits] at s2;omega
   have p3:((q3.toNat:Nat):Int)=q3:=by
    simp[Lit.wf,IntKind.min,IntKind.max,IntKind.signed,IntKind.bits] at s3;omega
   injection r0 with r0;injection r1 with r1;injection r2 with r2;injection r3 with r3;injection r4 with r4;injection r5 with r5
   refine⟨⟨q0.toNat,q1.toNat,q2.toNat,q3.toNat,q4,q5.data.toList,X⟩,e6,?_,by show q5.data.toList.length≤_;rw[←Lib.size_eq];exact w5,hX,hXl⟩
   simp only[XA.cells,ba_mk,p0,p1,p2,p3]
   rw[r0,r1,r2,r3,r4,r5]
theorem open_stp {n:Nat} {cs:List Value} {y:DataW H×List MemPlace} (h:DataW.trod enc Tryz.prog w base spare held n 69 cs=some y) (hz:(DataW.weights Tryz.prog 69 y.1).all (·≤reachBytes)=true):
 ∃ x:Stp,cs=x.cells∧x.Fits w:=by
 obtain⟨xs,m,_,rfl,hl,hxl,hf⟩:=DataW.trod_struct Tryz.underlying69 h
 have k3:Tryz.prog.cellsOf 3=1:=by kernel_rfl
 have k9:Tryz.prog.cellsOf 9=1:=by kernel_rfl
 have k33:Tryz.prog.cellsOf 67=7:=by kernel_rfl
 have k36:Tryz.prog.cellsOf 69=11:=by kernel_rfl
 rw[k36] at hl
 match xs,hxl with
 |[y0,y1,y2,y3,y4],_=>
  match cs,hl with
  |[e0,e1,e2,e3,e4,e5,e6,e7,e8,e9,e10],_=>
   have h0:=hf 0 _ rfl
   have h1:=hf 1 _ rfl
   have h2:=hf 2 _ rfl
   have h3:=hf 3 _ rfl
   have h4:=hf 4 _ rfl
   simp only[k3,k9,k33,List.drop_zero,List.drop_succ_cons,List.take_succ_cons,List.take_zero,List.getElem?_cons_zero,List.getElem?_cons_succ] at h0 h1 h2 h3 h4
   have hz2:(DataW.weightsEach Tryz.prog [3,3,9,9,67] [y0.1,y1.1,y2.1,y3.1,y4.1]).all (·≤reachBytes)=true:=by
    have hz':=hz
    simp only[DataW.weights,Tryz.underlying69] at hz'
    exact hz'
   obtain⟨q0,r0,_,_⟩:=DataW.trod_int Tryz.underlying3 h0
   obtain⟨q1,r1,_,_⟩:=DataW.trod_int Tryz.underlying3 h1
   obtain⟨q2,r2,t2,_⟩:=DataW.trod_string Tryz.underlying9 h2
   obtain⟨q3,r3,t3,_⟩:=DataW.trod_string Tryz.underlying9 h3
   obtain⟨A,v,hA,hAt,hAx,hAl⟩:=open_attr h4 (all_sub hz2 (fun z hzm=>DataW.weights_mem_each (j:=4) rfl rfl _ hzm))
   have w2:q2.size≤140737488351232:=by
    refine all_mem hz2 (DataW.weights_mem_each (j:=2) rfl rfl _ ?_)
    rw[t2];simp[DataW.weights,←Lib.size_eq]
   have w3:q3.size≤140737488351232:=by
    refine all_mem hz2 (DataW.weights_mem_each (j:=3) rfl rfl _ ?_)
    rw[t3];simp[DataW.weights,←Lib.size_eq]
   injection r0 with r0;injection r1 with r1;injection r2 with r2;injection r3 with r3
   refine⟨⟨q0,q1,q2.data.toList,q3.data.toList,A,v⟩,?_,⟨by show q2.data.toList.length≤_;rw[←Lib.size_eq];exact w2,by show q3.data.toList.length≤_;rw[←Lib.size_eq];exact w3,hAt,hAx,hAl⟩⟩
   show _=Value.int .i64 q0::Value.int .i64 q1::Value.string ⟨q2.data.toList.toArray⟩::Value.string ⟨q3.data.toList.toArray⟩::A.cells v
   rw[←hA,ba_mk,ba_mk,r0,r1,r2,r3];rfl
theorem open_stps {W:World} {v:Value} {d:DataW H} {p:List MemPlace} {r:Reach} {b0:Nat} (hval:Value.okWide Tryz.prog W r b0 62 v) (h:DataW.Trod enc Tryz.prog W base (fun _=>true) true 62 v d p)
 (hz:(DataW.weights Tryz.prog 62 d).all (·≤reachBytes)=true):∃ l:List Stp,StpsAt W v l:=by
 obtain⟨a0,n0,c0,rfl⟩:=okWide_slice Tryz.underlying62 hval
 obtain⟨fuel,hf⟩:=h
 rcases open_slice Tryz.underlying62 hf with⟨hcs,_⟩|⟨a,len,cap,m,n,D,Pl,hcs,_,hl,hm,hmm,hx,hi⟩
 · simp only[Value.cells] at hcs
   simp at hcs
   obtain⟨rfl,rfl,rfl⟩:=hcs
   exact⟨[],none,0,rfl,by simp,fun hne=>absurd rfl hne,by simp⟩
 · simp only[Value.cells] at hcs
   simp at hcs
   obtain⟨rfl,rfl,rfl⟩:=hcs
   have k34:Tryz.prog.cellsOf 69=11:=by kernel_rfl
   rw[k34] at hi
   have hmn:n0≤m:=by rw[hmm];simp;exact hl
   have hd:d= .slice ((List.range n0).map D) ((List.range (m - n0)).map fun j=>D (n0+j)):=congrArg Prod.fst hx
   have hzi:∀ i,i < n0→(DataW.weights Tryz.prog 69 (D i)).all (·≤reachBytes)=true:=fun i hi'=>all_sub hz (fun z hzm=>by
    rw[hd]
    simp only[DataW.weights,Tryz.underlying62]
    refine List.mem_cons_of_mem _ (List.mem_append_left _ (weights_all (i:=i) ?_ hzm))
    rw[List.getElem?_map,List.getElem?_range hi'];rfl)
   have hspot:0 < n0→a.spot=none:=fun hp=>by
    obtain⟨cs',hc,ht⟩:=hi 0 (by omega)
    obtain⟨x,rfl,_⟩:=open_stp ht (hzi 0 hp)
    obtain⟨_,_,hat⟩:=World.cells?_some hc
    have:=World.cell?_spot ((hat 0 (by simp[Stp.cells])).trans rfl)
    simpa [Addr.add] using this
   have hex:∀ i:Nat,∃ x:Stp,i < n0→x.Fits W∧a.spot=none∧a.block < W.heap.size∧x.At W a.block (a.off+i*11):=by
    intro i
    by_cases hlt:i < n0
    · obtain⟨cs',hc,ht⟩:=hi i (by omega)
      obtain⟨x,rfl,hx⟩:=open_stp ht (hzi i hlt)
      obtain⟨_,_,hat⟩:=World.cells?_some hc
      have g0:=hat 0 (by simp[Stp.cells])
      have hsp:a.spot=none:=hspot (by omega)
      have hadd:∀ j,(a.add (i*11)).add j=⟨a.block,a.off+i*11+j,none⟩:=fun j=>by
       rw[add_add]
       obtain⟨ab,ao,asp⟩:=a
       simp only at hsp
       subst hsp
       unfold Addr.add
       split
       · next h=>
         have h1:i*11=0:=by omega
         have h2:j=0:=by omega
         rw[h1,h2];rfl
       · rw[Nat.add_assoc]
      have hbl:a.block < W.heap.size:=by
       have:=World.block_lt_of_cell? W _ (g0.trans rfl)
       rw[hadd] at this
       exact this
      refine⟨x,fun _=>⟨hx,hsp,hbl,?_⟩⟩
      intro j v hv
      rw[←hadd]
      exact(hat j (List.getElem?_eq_some_iff.1 hv).1).trans hv
    · exact⟨⟨0,0,[],[],zeroA,.slice none 0 0⟩,fun h=>absurd h hlt⟩
   obtain⟨g,hg⟩:=Classical.axiomOfChoice hex
   have hln:((List.range n0).map g).length=n0:=by simp
   have hget:∀ (i:Nat) x,((List.range n0).map g)[i]? =some x→i < n0∧x=g i:=fun i x hx=>by
    rw[List.getElem?_map] at hx
    by_cases hlt:i < n0
    · rw[List.getElem?_range hlt] at hx;exact⟨hlt,(Option.some.inj hx).symm⟩
    · rw[List.getElem?_eq_none (by simp;omega)] at hx;simp at hx
   refine⟨(List.range n0).map g,some a,c0,by rw[hln],by rw[hln];omega,fun hne=>?_,fun x hx=>?_⟩
   · have hpos:0 < n0:=by
      rcases Nat.eq_zero_or_pos n0 with e|e
      · exact absurd (by rw[e];rfl) hne
      · exact e
     obtain⟨_,hsp,hbl,_⟩:=hg 0 hpos
     refine⟨a.block,a.off,?_,hbl,fun i x hx=>?_⟩
     · obtain⟨ab,ao,asp⟩:=a
       simp only at hsp
       subst hsp;rfl
     · obtain⟨hlt,rfl⟩:=hget i x hx
       exact(hg i hlt).2.2.2
   · obtain⟨i,hi',rfl⟩:=List.mem_map.1 hx
     exact(hg i (List.mem_range.1 hi')).1
end
end Go.Proofs.YtnmejonfdfdegaaGreatDoor.Sr
