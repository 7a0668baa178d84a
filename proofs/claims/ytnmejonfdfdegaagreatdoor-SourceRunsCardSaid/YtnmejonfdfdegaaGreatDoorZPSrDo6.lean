import Derived.Test.YtnmejonfdfdegaaGreatDoorZPZz
import Derived.Test.YtnmejonfdfdegaaGreatDoorZPRtClear
import Derived.Deep.RegionHeld
import Derived.Deep.MidRow
set_option linter.unusedSimpArgs false
set_option linter.unusedVariables false
set_option maxHeartbeats 40000000
set_option maxRecDepth 100000
namespace Go.Proofs.YtnmejonfdfdegaaGreatDoor.Sr
open Go.RowKit Go.Maps Go.WideMaps Rf Go.Proofs.YtnmejonfdfdegaaGreatDoor.Nm St
open Lib (hid)
theorem do_arm6 {Q:Exit→Act→World→Prop} (u2 u3 u4 u6 jD jE jF jG jH jI jJ jK jL jM jN jO jP jQ jR jS jT jU jV jW jX jY jZ j0 j1 j2 j3 j4 j5 j6 j7 j8 j9 ya yb yc yd ye yf yg yh yi yj yk yl ym yn yo yp yq yr ys yt yu yv yw yx yy yz yA yB yC yD yE yF yG yH yI yJ yK yL yM yN yO yP yQ yR yS yT yU yV yW yX yY yZ y0 y1 y2 y3 y4 y5 y6 y7 y8 y9 Ja Jb Jc Jd Je Jf Jg Jh Ji Jj Jk Jl Jm Jn Jo Jp Jq Jr Js Jt Ju Jv Jw Jx Jy Jz JA JB JC JD JE JF JG JH JI JJ JK JL JM JN JO JP JQ JR JS JT JU JV JW JX JY JZ J0 J1 J2 J3 J4 J5 J6 J7 J8 J9 Ya Yb Yc Yd Ye Yf Yg Yh Yi Yj Yk Yl Ym Yn Yo Yp Yq Yr Ys Yt Yu Yv Yw Yx Yy Yz YA YB YC YD YE YF YG YH YI YJ YK YL YM YN YO YP YQ YR YS:Value) {B k:Nat} {w0 w:World} {r q xb ab bb:Nat} {T:Tr} {v u v1:Value} {R:List RN} {who:Int} {path more:List UInt8} {A:XA}
 (hP:∀ c (a a':Act) w,a.defers=a'.defers→Q (.panic c) a w→Q (.panic c) a' w) (H:Hid (Pr B w0 r T q v R T.bare)) (G:Hid (Bd T k)) (hk:k≤900) (HBL:Hid (Below w0.heap.size w0 w)) (HTB:Hid (∀ w':World,Below B w0 w'→Tabs w')) (HXB:Hid (w.heap[xb]? =some (.cells (Stp.cells ⟨6,who,path,more,A,u⟩).toArray 69))) (HAB:Hid (w.heap[ab]? =some (.cells (A.cells v1).toArray 79))) (HBB:Hid (w.heap[bb]? =some (.cells (A.cells u).toArray 67)))
 (HN:Hid (w0.heap.size≤xb∧w0.heap.size≤ab∧w0.heap.size≤bb)) (hx1:xb≠bb) (hx2:ab≠bb) (HV:Hid (XsAt w v1 A.xs)) (HVN:Hid (∀ b∈xob A.xs v1,w0.heap.size≤b∧b≠bb)) (HU:Hid (XsAt w0 u A.xs)) (HUB:Hid (∀ b∈xob A.xs u,b < B)) (hp:path.length≤140737488351232) (hm:more.length≤140737488351232) (ht:A.target.length≤140737488351232)
 (HK:∀ (ja jb jc jd je jf jg jh ji jj jk jl jm jn jo jp jq jr js jt ju jv jw jx jy jz jA jB jC:Value) (w':World),DoQ B k w0 w r T q v R bb w'→Q .normal ⟨#[.pointer (some ⟨r,0,none⟩),.pointer (some ⟨q,0,none⟩),u2,u3,u4,.pointer (some ⟨xb,0,none⟩),u6,.pointer (some ⟨ab,0,none⟩),.pointer (some ⟨bb,0,none⟩),.bool true,jD,jE,jF,jG,jH,jI,jJ,jK,jL,jM,jN,.int .i64 6,ja,jb,jQ,jR,jS,jT,jU,jV,jW,jX,jY,jZ,j0,j1,j2,jc,jd,j5,j6,j7,j8,j9,ya,yb,yc,yd,ye,yf,yg,yh,yi,yj,yk,yl,je,jf,yo,yp,yq,yr,ys,yt,yu,yv,yw,yx,yy,yz,yA,yB,yC,yD,yE,jg,jh,yH,yI,yJ,yK,yL,yM,yN,yO,yP,yQ,yR,yS,yT,ji,jj,yW,yX,yY,yZ,y0,y1,y2,y3,y4,y5,y6,y7,jk,jl,Ja,Jb,Jc,Jd,Je,Jf,Jg,Jh,Ji,Jj,Jk,Jl,Jm,Jn,Jo,Jp,Jq,Jr,Js,jm,jn,jo,jp,jq,jr,js,jt,ju,jv,jw,jx,jy,jz,jA,jB,jC,JK,JL,JM,JN,JO,JP,JQ,JR,JS,JT,JU,JV,JW,JX,JY,JZ,J0,J1,J2,J3,J4,J5,J6,J7,J8,J9,Ya,Yb,Yc,Yd,Ye,Yf,Yg,Yh,Yi,Yj,Yk,Yl,Ym,Yn,Yo,Yp,Yq,Yr,Ys,Yt,Yu,Yv,Yw,Yx,Yy,Yz,YA,YB,YC,YD,YE,YF,YG,YH,YI,YJ,YK,YL,YM,YN,YO,YP,YQ,YR,YS],[]⟩ w'):
 Code.wp Tryz.prog (doB 0) Q ⟨#[.pointer (some ⟨r,0,none⟩),.pointer (some ⟨q,0,none⟩),u2,u3,u4,.pointer (some ⟨xb,0,none⟩),u6,.pointer (some ⟨ab,0,none⟩),.pointer (some ⟨bb,0,none⟩),.bool false,jD,jE,jF,jG,jH,jI,jJ,jK,jL,jM,jN,.int .i64 6,jO,jP,jQ,jR,jS,jT,jU,jV,jW,jX,jY,jZ,j0,j1,j2,j3,j4,j5,j6,j7,j8,j9,ya,yb,yc,yd,ye,yf,yg,yh,yi,yj,yk,yl,ym,yn,yo,yp,yq,yr,ys,yt,yu,yv,yw,yx,yy,yz,yA,yB,yC,yD,yE,yF,yG,yH,yI,yJ,yK,yL,yM,yN,yO,yP,yQ,yR,yS,yT,yU,yV,yW,yX,yY,yZ,y0,y1,y2,y3,y4,y5,y6,y7,y8,y9,Ja,Jb,Jc,Jd,Je,Jf,Jg,Jh,Ji,Jj,Jk,Jl,Jm,Jn,Jo,Jp,Jq,Jr,Js,Jt,Ju,Jv,Jw,Jx,Jy,Jz,JA,JB,JC,JD,JE,JF,JG,JH,JI,JJ,JK,JL,JM,JN,JO,JP,JQ,JR,JS,JT,JU,JV,JW,JX,JY,JZ,J0,J1,J2,J3,J4,J5,J6,J7,J8,J9,Ya,Yb,Yc,Yd,Ye,Yf,Yg,Yh,Yi,Yj,Yk,Yl,Ym,Yn,Yo,Yp,Yq,Yr,Ys,Yt,Yu,Yv,Yw,Yx,Yy,Yz,YA,YB,YC,YD,YE,YF,YG,YH,YI,YJ,YK,YL,YM,YN,YO,YP,YQ,YR,YS],[]⟩ w:=by
 have HKH:=hid HK
 clear HK
 conv=>arg 2;whnf
 obtain⟨w2,hw2⟩:∃ w2,w2=w:=⟨_,rfl⟩
 have HBB2:Hid (w2.heap[bb]? =some (.cells (A.cells u).toArray 67)):=hid (by rw[hw2];exact HBB.out)
 have HOT:Hid (∀ b,b≠bb→w2.heap[b]? =w.heap[b]?):=hid (fun b _=>by rw[hw2])
 have HS2:Hid (w2.heap.size=w.heap.size):=hid (by rw[hw2])
 have HB02:Hid (Below w0.heap.size w0 w2):=hid (by rw[hw2];exact HBL.out)
 rw[←hw2]
 clear hw2
 go_wp2_with fail
 have HZ:Hid (B≤w2.drew.heap.size):=hid (Nat.le_trans H.out.size HB02.out.size)
 have HBW:Hid (B≤w0.heap.size):=hid H.out.size
 have HT2:=hid (H.out.t.below HB02.out.drew)
 have KS:Hid (∀ w':World,(∀ b,w0.heap.size≤b→b < w2.drew.heap.size→w'.heap[b]? =w2.drew.heap[b]?)→(w'.cell? ⟨xb,2,none⟩=some (.string ⟨path.toArray⟩)∧w'.cell? ⟨xb,3,none⟩=some (.string ⟨more.toArray⟩)∧w'.cell? ⟨xb,9,none⟩=some (.string ⟨A.target.toArray⟩)∧w'.rangeAt xb 4 (A.cells u)∧w'.rangeAt ab 0 (A.cells v1)∧w'.rangeAt bb 0 (XA.cells (A) u))):=hid (fun w' hw=>by
  have hxl:xb < w2.heap.size:=by rw[HS2.out];exact lt_of_heap HXB.out
  have hal:ab < w2.heap.size:=by rw[HS2.out];exact lt_of_heap HAB.out
  have h1:=((hw xb HN.out.1 hxl).trans (HOT.out xb hx1)).trans HXB.out
  have h2:=((hw ab HN.out.2.1 hal).trans (HOT.out ab hx2)).trans HAB.out
  have h3:=(hw bb HN.out.2.2 (lt_of_heap HBB2.out)).trans HBB2.out
  refine⟨cell_of_heap h1,cell_of_heap h1,cell_of_heap h1,fun j z hz=>?_,fun j z hz=>?_,fun j z hz=>?_⟩
  · rw[cell_of_heap h1,List.getElem?_toArray,Nat.add_comm 4 j];exact hz
  · rw[cell_of_heap h2,List.getElem?_toArray,Nat.zero_add];exact hz
  · rw[cell_of_heap h3,List.getElem?_toArray,Nat.zero_add];exact hz)
 refine wp_region_held_drew (S:=(fun w':World=>w'.cell? ⟨xb,2,none⟩=some (.string ⟨path.toArray⟩)∧w'.cell? ⟨xb,3,none⟩=some (.string ⟨more.toArray⟩)∧w'.cell? ⟨xb,9,none⟩=some (.string ⟨A.target.toArray⟩)∧w'.rangeAt xb 4 (A.cells u)∧w'.rangeAt ab 0 (A.cells v1)∧w'.rangeAt bb 0 (XA.cells (A) u))) (by kernel_rfl) (KS.out w2.drew (fun _ _ _=>rfl)) (fun zh=>?_)
 iterate 12
  first|refine' tj 0 rfl rfl (pz hP) ?_ zh ?_|refine' tj 1 rfl rfl (pz hP) ?_ zh ?_|refine' tj 2 rfl rfl (pz hP) ?_ zh ?_|refine' tj 3 rfl rfl (pz hP) ?_ zh ?_|refine' tj 4 rfl rfl (pz hP) ?_ zh ?_|refine' tj 5 rfl rfl (pz hP) ?_ zh ?_|refine' tj 7 rfl rfl (pz hP) ?_ zh ?_|refine' tj 8 rfl rfl (pz hP) ?_ zh ?_|refine' tj 9 rfl rfl (pz hP) ?_ zh ?_|refine' tj 10 rfl rfl (pz hP) ?_ zh ?_|refine' tj 11 rfl rfl (pz hP) ?_ zh ?_|refine' tj 12 rfl rfl (pz hP) ?_ zh ?_
  rotate_left
  · intro wS hS;obtain⟨k0,k1,k2,_⟩:=hS;go_simp;try rfl
  try simp only[Act.put,zA,zB,zC,zD,zE,zF]
 refine wpAnyH_ready (rs:=[6]) (by kernel_rfl) (by simp) ?_
 refine AllReadyH.cons rfl (fun K hK=>?_) AllReadyH.nil
 have PC:=pcall6 B w2.drew r T k who path more A u hp ht G.out (by omega) HZ.out HT2.out
 unfold ptr at PC
 go_simp
 refine PC.mono ?_
 rintro ex w5 ⟨rfl,T',he,hg5,hbr⟩
 have HE:=hid he;have HG5:=hid hg5;have HBR:=hid hbr
 clear he hg5 hbr PC
 have HB5:Hid (Below B w0 w5):=hid ((HB02.out.drew.mono HBW.out).trans (HE.out.below HT2.out HZ.out))
 have KS5:=hid (KS.out w5 (fun b h1 h2=>eff_far H.out HE.out h1 h2))
 have HF5:=hid ((H.out.below HB02.out.drew).eff HE.out).f
 go_wp2_with fail
 refine hK.out _ _ KS5.out ?_
 clear hK K zh
 intro zh
 try simp only[Act.put,zA,zB,zC,zD,zE,zF]
 refine wpAnyH_ready (rs:=[13]) (by kernel_rfl) (by simp) ?_
 refine AllReadyH.cons rfl (fun K hK=>?_) AllReadyH.nil
 have QC:=qcall6 B w5 q v R T.bare k who path more A u hp ht (HTB.out w5 HB5.out) (goodF_of H.out.t G.out.b.good) (by omega) (by have:=G.out.clk;show T.clock≤_;omega) (Nat.le_trans HZ.out HE.out.turn.size) HF5.out
 unfold ptr at QC
 go_simp
 refine QC.mono ?_
 intro ex w6 hq
 have HQ:=hid hq
 obtain⟨rfl,v6,R6,hrt,hru,hro,hrv⟩:=hq
 rw[runE_bare]
 have KS6:=hid (KS.out w6 (fun b h1 h2=>(hru.block b (Nat.lt_of_lt_of_le h2 HE.out.turn.size) (fun hc=>H.out.far h1 (List.mem_append_right _ hc))).trans (eff_far H.out HE.out h1 h2)))
 clear hrt hru hro hrv QC
 go_wp2_with fail
 refine hK.out _ _ KS6.out ?_
 clear hK K zh
 intro zh
 try simp only[Act.put,zA,zB,zC,zD,zE,zF]
 iterate 2
  first|refine' tj 14 rfl rfl (pz hP) ?_ zh ?_|refine' tj 15 rfl rfl (pz hP) ?_ zh ?_
  rotate_left
  · intro wS hS;obtain⟨k0,k1,k2,_⟩:=hS;go_simp;try rfl
  try simp only[Act.put,zA,zB,zC,zD,zE,zF]
 refine wpAnyH_done (by kernel_rfl) ?_ _
 clear zh
 try simp only[Act.put,zA,zB,zC,zD,zE,zF]
 go_wp2_with fail
 refine HKH.out _ _ _ _ _ _ _ _ _ _ _ _ _ _ _ _ _ _ _ _ _ _ _ _ _ _ _ _ _ w6 ?_
 exact doq_mk H.out HB02.out.drew (fun b h1 h2 h3=>HOT.out b h3) (by show w.heap.size≤w2.heap.size;rw[HS2.out];exact Nat.le_refl _) HE.out HG5.out HBR.out HQ.out
theorem do_arm7 {Q:Exit→Act→World→Prop} (u2 u3 u4 u6 jD jE jF jG jH jI jJ jK jL jM jN jO jP jQ jR jS jT jU jV jW jX jY jZ j0 j1 j2 j3 j4 j5 j6 j7 j8 j9 ya yb yc yd ye yf yg yh yi yj yk yl ym yn yo yp yq yr ys yt yu yv yw yx yy yz yA yB yC yD yE yF yG yH yI yJ yK yL yM yN yO yP yQ yR yS yT yU yV yW yX yY yZ y0 y1 y2 y3 y4 y5 y6 y7 y8 y9 Ja Jb Jc Jd Je Jf Jg Jh Ji Jj Jk Jl Jm Jn Jo Jp Jq Jr Js Jt Ju Jv Jw Jx Jy Jz JA JB JC JD JE JF JG JH JI JJ JK JL JM JN JO JP JQ JR JS JT JU JV JW JX JY JZ J0 J1 J2 J3 J4 J5 J6 J7 J8 J9 Ya Yb Yc Yd Ye Yf Yg Yh Yi Yj Yk Yl Ym Yn Yo Yp Yq Yr Ys Yt Yu Yv Yw Yx Yy Yz YA YB YC YD YE YF YG YH YI YJ YK YL YM YN YO YP YQ YR YS:Value) {B k:Nat} {w0 w:World} {r q xb ab bb:Nat} {T:Tr} {v u v1:Value} {R:List RN} {who:Int} {path more:List UInt8} {A:XA}
 (hP:∀ c (a a':Act) w,a.defers=a'.defers→Q (.panic c) a w→Q (.panic c) a' w) (H:Hid (Pr B w0 r T q v R T.bare)) (G:Hid (Bd T k)) (hk:k≤900) (HBL:Hid (Below w0.heap.size w0 w)) (HTB:Hid (∀ w':World,Below B w0 w'→Tabs w')) (HXB:Hid (w.heap[xb]? =some (.cells (Stp.cells ⟨7,who,path,more,A,u⟩).toArray 69))) (HAB:Hid (w.heap[ab]? =some (.cells (A.cells v1).toArray 79))) (HBB:Hid (w.heap[bb]? =some (.cells (A.cells u).toArray 67)))
 (HN:Hid (w0.heap.size≤xb∧w0.heap.size≤ab∧w0.heap.size≤bb)) (hx1:xb≠bb) (hx2:ab≠bb) (HV:Hid (XsAt w v1 A.xs)) (HVN:Hid (∀ b∈xob A.xs v1,w0.heap.size≤b∧b≠bb)) (HU:Hid (XsAt w0 u A.xs)) (HUB:Hid (∀ b∈xob A.xs u,b < B)) (hp:path.length≤140737488351232) (hm:more.length≤140737488351232) (ht:A.target.length≤140737488351232)
 (HK:∀ (ja jb jc jd je jf jg jh ji jj jk jl jm jn jo jp jq jr js jt ju jv jw jx jy jz jA jB jC:Value) (w':World),DoQ B k w0 w r T q v R bb w'→Q .normal ⟨#[.pointer (some ⟨r,0,none⟩),.pointer (some ⟨q,0,none⟩),u2,u3,u4,.pointer (some ⟨xb,0,none⟩),u6,.pointer (some ⟨ab,0,none⟩),.pointer (some ⟨bb,0,none⟩),.bool true,jD,jE,jF,jG,jH,jI,jJ,jK,jL,jM,jN,.int .i64 7,ja,jb,jQ,jR,jS,jT,jU,jV,jW,jX,jY,jZ,j0,j1,j2,jc,jd,j5,j6,j7,j8,j9,ya,yb,yc,yd,ye,yf,yg,yh,yi,yj,yk,yl,je,jf,yo,yp,yq,yr,ys,yt,yu,yv,yw,yx,yy,yz,yA,yB,yC,yD,yE,jg,jh,yH,yI,yJ,yK,yL,yM,yN,yO,yP,yQ,yR,yS,yT,ji,jj,yW,yX,yY,yZ,y0,y1,y2,y3,y4,y5,y6,y7,jk,jl,Ja,Jb,Jc,Jd,Je,Jf,Jg,Jh,Ji,Jj,Jk,Jl,Jm,Jn,Jo,Jp,Jq,Jr,Js,jm,jn,Jv,Jw,Jx,Jy,Jz,JA,JB,JC,JD,JE,JF,JG,JH,JI,JJ,jo,jp,jq,jr,js,jt,ju,jv,jw,jx,jy,jz,jA,jB,jC,JZ,J0,J1,J2,J3,J4,J5,J6,J7,J8,J9,Ya,Yb,Yc,Yd,Ye,Yf,Yg,Yh,Yi,Yj,Yk,Yl,Ym,Yn,Yo,Yp,Yq,Yr,Ys,Yt,Yu,Yv,Yw,Yx,Yy,Yz,YA,YB,YC,YD,YE,YF,YG,YH,YI,YJ,YK,YL,YM,YN,YO,YP,YQ,YR,YS],[]⟩ w'):
 Code.wp Tryz.prog (doB 0) Q ⟨#[.pointer (some ⟨r,0,none⟩),.pointer (some ⟨q,0,none⟩),u2,u3,u4,.pointer (some ⟨xb,0,none⟩),u6,.pointer (some ⟨ab,0,none⟩),.pointer (some ⟨bb,0,none⟩),.bool false,jD,jE,jF,jG,jH,jI,jJ,jK,jL,jM,jN,.int .i64 7,jO,jP,jQ,jR,jS,jT,jU,jV,jW,jX,jY,jZ,j0,j1,j2,j3,j4,j5,j6,j7,j8,j9,ya,yb,yc,yd,ye,yf,yg,yh,yi,yj,yk,yl,ym,yn,yo,yp,yq,yr,ys,yt,yu,yv,yw,yx,yy,yz,yA,yB,yC,yD,yE,yF,yG,yH,yI,yJ,yK,yL,yM,yN,yO,yP,yQ,yR,yS,yT,yU,yV,yW,yX,yY,yZ,y0,y1,y2,y3,y4,y5,y6,y7,y8,y9,Ja,Jb,Jc,Jd,Je,Jf,Jg,Jh,Ji,Jj,Jk,Jl,Jm,Jn,Jo,Jp,Jq,Jr,Js,Jt,Ju,Jv,Jw,Jx,Jy,Jz,JA,JB,JC,JD,JE,JF,JG,JH,JI,JJ,JK,JL,JM,JN,JO,JP,JQ,JR,JS,JT,JU,JV,JW,JX,JY,JZ,J0,J1,J2,J3,J4,J5,J6,J7,J8,J9,Ya,Yb,Yc,Yd,Ye,Yf,Yg,Yh,Yi,Yj,Yk,Yl,Ym,Yn,Yo,Yp,Yq,Yr,Ys,Yt,Yu,Yv,Yw,Yx,Yy,Yz,YA,YB,YC,YD,YE,YF,YG,YH,YI,YJ,YK,YL,YM,YN,YO,YP,YQ,YR,YS],[]⟩ w:=by
 have HKH:=hid HK
 clear HK
 conv=>arg 2;whnf
 obtain⟨w2,hw2⟩:∃ w2,w2=w:=⟨_,rfl⟩
 have HBB2:Hid (w2.heap[bb]? =some (.cells (A.cells u).toArray 67)):=hid (by rw[hw2];exact HBB.out)
 have HOT:Hid (∀ b,b≠bb→w2.heap[b]? =w.heap[b]?):=hid (fun b _=>by rw[hw2])
 have HS2:Hid (w2.heap.size=w.heap.size):=hid (by rw[hw2])
 have HB02:Hid (Below w0.heap.size w0 w2):=hid (by rw[hw2];exact HBL.out)
 rw[←hw2]
 clear hw2
 go_wp2_with fail
 have HZ:Hid (B≤w2.drew.heap.size):=hid (Nat.le_trans H.out.size HB02.out.size)
 have HBW:Hid (B≤w0.heap.size):=hid H.out.size
 have HT2:=hid (H.out.t.below HB02.out.drew)
 have KS:Hid (∀ w':World,(∀ b,w0.heap.size≤b→b < w2.drew.heap.size→w'.heap[b]? =w2.drew.heap[b]?)→(w'.cell? ⟨xb,2,none⟩=some (.string ⟨path.toArray⟩)∧w'.cell? ⟨xb,3,none⟩=some (.string ⟨more.toArray⟩)∧w'.cell? ⟨xb,9,none⟩=some (.string ⟨A.target.toArray⟩)∧w'.rangeAt xb 4 (A.cells u)∧w'.rangeAt ab 0 (A.cells v1)∧w'.rangeAt bb 0 (XA.cells (A) u))):=hid (fun w' hw=>by
  have hxl:xb < w2.heap.size:=by rw[HS2.out];exact lt_of_heap HXB.out
  have hal:ab < w2.heap.size:=by rw[HS2.out];exact lt_of_heap HAB.out
  have h1:=((hw xb HN.out.1 hxl).trans (HOT.out xb hx1)).trans HXB.out
  have h2:=((hw ab HN.out.2.1 hal).trans (HOT.out ab hx2)).trans HAB.out
  have h3:=(hw bb HN.out.2.2 (lt_of_heap HBB2.out)).trans HBB2.out
  refine⟨cell_of_heap h1,cell_of_heap h1,cell_of_heap h1,fun j z hz=>?_,fun j z hz=>?_,fun j z hz=>?_⟩
  · rw[cell_of_heap h1,List.getElem?_toArray,Nat.add_comm 4 j];exact hz
  · rw[cell_of_heap h2,List.getElem?_toArray,Nat.zero_add];exact hz
  · rw[cell_of_heap h3,List.getElem?_toArray,Nat.zero_add];exact hz)
 refine wp_region_held_drew (S:=(fun w':World=>w'.cell? ⟨xb,2,none⟩=some (.string ⟨path.toArray⟩)∧w'.cell? ⟨xb,3,none⟩=some (.string ⟨more.toArray⟩)∧w'.cell? ⟨xb,9,none⟩=some (.string ⟨A.target.toArray⟩)∧w'.rangeAt xb 4 (A.cells u)∧w'.rangeAt ab 0 (A.cells v1)∧w'.rangeAt bb 0 (XA.cells (A) u))) (by kernel_rfl) (KS.out w2.drew (fun _ _ _=>rfl)) (fun zh=>?_)
 iterate 10
  first|refine' tj 0 rfl rfl (pz hP) ?_ zh ?_|refine' tj 1 rfl rfl (pz hP) ?_ zh ?_|refine' tj 2 rfl rfl (pz hP) ?_ zh ?_|refine' tj 3 rfl rfl (pz hP) ?_ zh ?_|refine' tj 4 rfl rfl (pz hP) ?_ zh ?_|refine' tj 6 rfl rfl (pz hP) ?_ zh ?_|refine' tj 7 rfl rfl (pz hP) ?_ zh ?_|refine' tj 8 rfl rfl (pz hP) ?_ zh ?_|refine' tj 9 rfl rfl (pz hP) ?_ zh ?_|refine' tj 10 rfl rfl (pz hP) ?_ zh ?_
  rotate_left
  · intro wS hS;obtain⟨k0,k1,k2,_⟩:=hS;go_simp;try rfl
  try simp only[Act.put,zA,zB,zC,zD,zE,zF]
 refine wpAnyH_ready (rs:=[5]) (by kernel_rfl) (by simp) ?_
 refine AllReadyH.cons rfl (fun K hK=>?_) AllReadyH.nil
 have PC:=pcall7 B w2.drew r T k who path more A u hp hm G.out (by omega) HZ.out HT2.out
 unfold ptr at PC
 go_simp
 refine PC.mono ?_
 rintro ex w5 ⟨rfl,T',he,hg5,hbr⟩
 have HE:=hid he;have HG5:=hid hg5;have HBR:=hid hbr
 clear he hg5 hbr PC
 have HB5:Hid (Below B w0 w5):=hid ((HB02.out.drew.mono HBW.out).trans (HE.out.below HT2.out HZ.out))
 have KS5:=hid (KS.out w5 (fun b h1 h2=>eff_far H.out HE.out h1 h2))
 have HF5:=hid ((H.out.below HB02.out.drew).eff HE.out).f
 go_wp2_with fail
 refine hK.out _ _ KS5.out ?_
 clear hK K zh
 intro zh
 try simp only[Act.put,zA,zB,zC,zD,zE,zF]
 refine wpAnyH_ready (rs:=[11]) (by kernel_rfl) (by simp) ?_
 refine AllReadyH.cons rfl (fun K hK=>?_) AllReadyH.nil
 have QC:=qcall7 B w5 q v R T.bare k who path more A u hp hm (srt_moved HE.out.tree HG5.out HBR.out) (HTB.out w5 HB5.out) (goodF_of H.out.t G.out.b.good) (by omega) (by have:=G.out.clk;show T.clock≤_;omega) (Nat.le_trans HZ.out HE.out.turn.size) HF5.out
 unfold ptr at QC
 go_simp
 refine QC.mono ?_
 intro ex w6 hq
 have HQ:=hid hq
 obtain⟨rfl,v6,R6,hrt,hru,hro,hrv⟩:=hq
 rw[runE_bare]
 have KS6:=hid (KS.out w6 (fun b h1 h2=>(hru.block b (Nat.lt_of_lt_of_le h2 HE.out.turn.size) (fun hc=>H.out.far h1 (List.mem_append_right _ hc))).trans (eff_far H.out HE.out h1 h2)))
 clear hrt hru hro hrv QC
 go_wp2_with fail
 refine hK.out _ _ KS6.out ?_
 clear hK K zh
 intro zh
 try simp only[Act.put,zA,zB,zC,zD,zE,zF]
 iterate 2
  first|refine' tj 12 rfl rfl (pz hP) ?_ zh ?_|refine' tj 13 rfl rfl (pz hP) ?_ zh ?_
  rotate_left
  · intro wS hS;obtain⟨k0,k1,k2,_⟩:=hS;go_simp;try rfl
  try simp only[Act.put,zA,zB,zC,zD,zE,zF]
 refine wpAnyH_done (by kernel_rfl) ?_ _
 clear zh
 try simp only[Act.put,zA,zB,zC,zD,zE,zF]
 go_wp2_with fail
 refine HKH.out _ _ _ _ _ _ _ _ _ _ _ _ _ _ _ _ _ _ _ _ _ _ _ _ _ _ _ _ _ w6 ?_
 exact doq_mk H.out HB02.out.drew (fun b h1 h2 h3=>HOT.out b h3) (by show w.heap.size≤w2.heap.size;rw[HS2.out];exact Nat.le_refl _) HE.out HG5.out HBR.out HQ.out
end Go.Proofs.YtnmejonfdfdegaaGreatDoor.Sr
