import Derived.Test.YtnmejonfdfdegaaGreatDoorZPZz
import Derived.Test.YtnmejonfdfdegaaGreatDoorZPRtClear
import Derived.Deep.RegionHeld
import Derived.Deep.MidRow
import Derived.Test.YtnmejonfdfdegaaGreatDoorZPSrQuad
import Derived.Test.YtnmejonfdfdegaaGreatDoorZPSrDo2
import Derived.Test.YtnmejonfdfdegaaGreatDoorZPSrDo3
import Derived.Test.YtnmejonfdfdegaaGreatDoorZPSrDo5
import Derived.Test.YtnmejonfdfdegaaGreatDoorZPSrDo6
set_option linter.unusedSimpArgs false
set_option linter.unusedVariables false
set_option maxHeartbeats 40000000
set_option maxRecDepth 100000
namespace Go.Proofs.YtnmejonfdfdegaaGreatDoor.Sr
open Go.RowKit Go.Maps Go.WideMaps Rf Go.Proofs.YtnmejonfdfdegaaGreatDoor.Nm St
open Lib (hid)
theorem do_arm8 {Q:Exit→Act→World→Prop} (u2 u3 u4 u6 jB jC jD jE jF jG jH jI jJ jK jL jM jN jO jP jQ jR jS jT jU jV jW jX jY jZ j0 j1 j2 j3 j4 j5 j6 j7 j8 j9 ya yb yc yd ye yf yg yh yi yj yk yl ym yn yo yp yq yr ys yt yu yv yw yx yy yz yA yB yC yD yE yF yG yH yI yJ yK yL yM yN yO yP yQ yR yS yT yU yV yW yX yY yZ y0 y1 y2 y3 y4 y5 y6 y7 y8 y9 Ja Jb Jc Jd Je Jf Jg Jh Ji Jj Jk Jl Jm Jn Jo Jp Jq Jr Js Jt Ju Jv Jw Jx Jy Jz JA JB JC JD JE JF JG JH JI JJ JK JL JM JN JO JP JQ JR JS JT JU JV JW JX JY JZ J0 J1 J2 J3 J4 J5 J6 J7 J8 J9 Ya Yb Yc Yd Ye Yf Yg Yh Yi Yj Yk Yl Ym Yn Yo Yp Yq Yr Ys Yt Yu Yv Yw Yx Yy Yz YA YB YC YD YE YF YG YH YI YJ YK YL YM YN YO YP YQ:Value) {B k:Nat} {w0 w:World} {r q xb ab bb:Nat} {T:Tr} {v u v1:Value} {R:List RN} {who:Int} {path more:List UInt8} {A:XA}
 (hP:∀ c (a a':Act) w,a.defers=a'.defers→Q (.panic c) a w→Q (.panic c) a' w) (H:Hid (Pr B w0 r T q v R T.bare)) (G:Hid (Bd T k)) (hk:k≤900) (HBL:Hid (Below w0.heap.size w0 w)) (HTB:Hid (∀ w':World,Below B w0 w'→Tabs w')) (HXB:Hid (w.heap[xb]? =some (.cells (Stp.cells ⟨8,who,path,more,A,u⟩).toArray 69))) (HAB:Hid (w.heap[ab]? =some (.cells (A.cells v1).toArray 79))) (HBB:Hid (w.heap[bb]? =some (.cells (A.cells u).toArray 67)))
 (HN:Hid (w0.heap.size≤xb∧w0.heap.size≤ab∧w0.heap.size≤bb)) (hx1:xb≠bb) (hx2:ab≠bb) (HV:Hid (XsAt w v1 A.xs)) (HVN:Hid (∀ b∈xob A.xs v1,w0.heap.size≤b∧b≠bb)) (HU:Hid (XsAt w0 u A.xs)) (HUB:Hid (∀ b∈xob A.xs u,b < B)) (hp:path.length≤140737488351232) (hm:more.length≤140737488351232) (ht:A.target.length≤140737488351232)
 (HK:∀ (ja jb jc jd je jf jg jh ji jj jk jl jm jn jo jp jq jr js jt ju jv jw jx jy jz jA:Value) (w':World),DoQ B k w0 w r T q v R bb w'→Q .normal ⟨#[.pointer (some ⟨r,0,none⟩),.pointer (some ⟨q,0,none⟩),u2,u3,u4,.pointer (some ⟨xb,0,none⟩),u6,.pointer (some ⟨ab,0,none⟩),.pointer (some ⟨bb,0,none⟩),.bool true,jB,jC,jD,jE,jF,jG,jH,jI,jJ,jK,jL,.int .i64 8,ja,jb,jO,jP,jQ,jR,jS,jT,jU,jV,jW,jX,jY,jZ,j0,jc,jd,j3,j4,j5,j6,j7,j8,j9,ya,yb,yc,yd,ye,yf,yg,yh,yi,yj,je,jf,ym,yn,yo,yp,yq,yr,ys,yt,yu,yv,yw,yx,yy,yz,yA,yB,yC,jg,jh,yF,yG,yH,yI,yJ,yK,yL,yM,yN,yO,yP,yQ,yR,ji,jj,yU,yV,yW,yX,yY,yZ,y0,y1,y2,y3,y4,y5,jk,jl,y8,y9,Ja,Jb,Jc,Jd,Je,Jf,Jg,Jh,Ji,Jj,Jk,Jl,Jm,Jn,Jo,Jp,Jq,jm,jn,Jt,Ju,Jv,Jw,Jx,Jy,Jz,JA,JB,JC,JD,JE,JF,JG,JH,jo,jp,JK,JL,JM,JN,JO,JP,JQ,JR,JS,JT,JU,JV,JW,jq,jr,js,jt,ju,jv,jw,jx,jy,jz,jA,J8,J9,Ya,Yb,Yc,Yd,Ye,Yf,Yg,Yh,Yi,Yj,Yk,Yl,Ym,Yn,Yo,Yp,Yq,Yr,Ys,Yt,Yu,Yv,Yw,Yx,Yy,Yz,YA,YB,YC,YD,YE,YF,YG,YH,YI,YJ,YK,YL,YM,YN,YO,YP,YQ],[]⟩ w'):
 Code.wp Tryz.prog (doB 0) Q ⟨#[.pointer (some ⟨r,0,none⟩),.pointer (some ⟨q,0,none⟩),u2,u3,u4,.pointer (some ⟨xb,0,none⟩),u6,.pointer (some ⟨ab,0,none⟩),.pointer (some ⟨bb,0,none⟩),.bool false,jB,jC,jD,jE,jF,jG,jH,jI,jJ,jK,jL,.int .i64 8,jM,jN,jO,jP,jQ,jR,jS,jT,jU,jV,jW,jX,jY,jZ,j0,j1,j2,j3,j4,j5,j6,j7,j8,j9,ya,yb,yc,yd,ye,yf,yg,yh,yi,yj,yk,yl,ym,yn,yo,yp,yq,yr,ys,yt,yu,yv,yw,yx,yy,yz,yA,yB,yC,yD,yE,yF,yG,yH,yI,yJ,yK,yL,yM,yN,yO,yP,yQ,yR,yS,yT,yU,yV,yW,yX,yY,yZ,y0,y1,y2,y3,y4,y5,y6,y7,y8,y9,Ja,Jb,Jc,Jd,Je,Jf,Jg,Jh,Ji,Jj,Jk,Jl,Jm,Jn,Jo,Jp,Jq,Jr,Js,Jt,Ju,Jv,Jw,Jx,Jy,Jz,JA,JB,JC,JD,JE,JF,JG,JH,JI,JJ,JK,JL,JM,JN,JO,JP,JQ,JR,JS,JT,JU,JV,JW,JX,JY,JZ,J0,J1,J2,J3,J4,J5,J6,J7,J8,J9,Ya,Yb,Yc,Yd,Ye,Yf,Yg,Yh,Yi,Yj,Yk,Yl,Ym,Yn,Yo,Yp,Yq,Yr,Ys,Yt,Yu,Yv,Yw,Yx,Yy,Yz,YA,YB,YC,YD,YE,YF,YG,YH,YI,YJ,YK,YL,YM,YN,YO,YP,YQ],[]⟩ w:=by
 have HKH:=hid HK
 clear HK
 conv=>arg 2;whnf
 obtain⟨w2,hw2⟩:∃ w2,w2=w:=⟨_,rfl⟩
 have HBB2:Hid (w2.heap[bb]? =some (.cells (A.cells u).toArray 67)):=hid (by rw[hw2];exact HBB.out)
 have HOT:Hid (∀ b,b≠bb→w2.heap[b]? =w.heap[b]?):=hid (fun b _=>by rw[hw2])
 have HS2:Hid (w2.heap.size=w.heap.size):=hid (by rw[hw2])
 have HB02:Hid (Below w0.heap.size w0 w2):=hid (by rw[hw2];exact HBL.out)
 rw[←hw2]
 clear hw2
 go_wp2_with fail
 have HZ:Hid (B≤w2.drew.heap.size):=hid (Nat.le_trans H.out.size HB02.out.size)
 have HBW:Hid (B≤w0.heap.size):=hid H.out.size
 have HT2:=hid (H.out.t.below HB02.out.drew)
 have KS:Hid (∀ w':World,(∀ b,w0.heap.size≤b→b < w2.drew.heap.size→w'.heap[b]? =w2.drew.heap[b]?)→(w'.cell? ⟨xb,2,none⟩=some (.string ⟨path.toArray⟩)∧w'.cell? ⟨xb,3,none⟩=some (.string ⟨more.toArray⟩)∧w'.cell? ⟨xb,9,none⟩=some (.string ⟨A.target.toArray⟩)∧w'.rangeAt xb 4 (A.cells u)∧w'.rangeAt ab 0 (A.cells v1)∧w'.rangeAt bb 0 (XA.cells (A) u))):=hid (fun w' hw=>by
  have hxl:xb < w2.heap.size:=by rw[HS2.out];exact lt_of_heap HXB.out
  have hal:ab < w2.heap.size:=by rw[HS2.out];exact lt_of_heap HAB.out
  have h1:=((hw xb HN.out.1 hxl).trans (HOT.out xb hx1)).trans HXB.out
  have h2:=((hw ab HN.out.2.1 hal).trans (HOT.out ab hx2)).trans HAB.out
  have h3:=(hw bb HN.out.2.2 (lt_of_heap HBB2.out)).trans HBB2.out
  refine⟨cell_of_heap h1,cell_of_heap h1,cell_of_heap h1,fun j z hz=>?_,fun j z hz=>?_,fun j z hz=>?_⟩
  · rw[cell_of_heap h1,List.getElem?_toArray,Nat.add_comm 4 j];exact hz
  · rw[cell_of_heap h2,List.getElem?_toArray,Nat.zero_add];exact hz
  · rw[cell_of_heap h3,List.getElem?_toArray,Nat.zero_add];exact hz)
 refine wp_region_held_drew (S:=(fun w':World=>w'.cell? ⟨xb,2,none⟩=some (.string ⟨path.toArray⟩)∧w'.cell? ⟨xb,3,none⟩=some (.string ⟨more.toArray⟩)∧w'.cell? ⟨xb,9,none⟩=some (.string ⟨A.target.toArray⟩)∧w'.rangeAt xb 4 (A.cells u)∧w'.rangeAt ab 0 (A.cells v1)∧w'.rangeAt bb 0 (XA.cells (A) u))) (by kernel_rfl) (KS.out w2.drew (fun _ _ _=>rfl)) (fun zh=>?_)
 iterate 6
  first|refine' tj 0 rfl rfl (pz hP) ?_ zh ?_|refine' tj 1 rfl rfl (pz hP) ?_ zh ?_|refine' tj 2 rfl rfl (pz hP) ?_ zh ?_|refine' tj 4 rfl rfl (pz hP) ?_ zh ?_|refine' tj 5 rfl rfl (pz hP) ?_ zh ?_|refine' tj 6 rfl rfl (pz hP) ?_ zh ?_
  rotate_left
  · intro wS hS;obtain⟨k0,k1,k2,_⟩:=hS;go_simp;try rfl
  try simp only[Act.put,zA,zB,zC,zD,zE,zF]
 refine wpAnyH_ready (rs:=[3]) (by kernel_rfl) (by simp) ?_
 refine AllReadyH.cons rfl (fun K hK=>?_) AllReadyH.nil
 have PC:=pcall8 B w2.drew r T k who path more A u hp G.out (by omega) HZ.out HT2.out
 unfold ptr at PC
 go_simp
 refine PC.mono ?_
 rintro ex w5 ⟨rfl,T',he,hg5,hbr⟩
 have HE:=hid he;have HG5:=hid hg5;have HBR:=hid hbr
 clear he hg5 hbr PC
 have HB5:Hid (Below B w0 w5):=hid ((HB02.out.drew.mono HBW.out).trans (HE.out.below HT2.out HZ.out))
 have KS5:=hid (KS.out w5 (fun b h1 h2=>eff_far H.out HE.out h1 h2))
 have HF5:=hid ((H.out.below HB02.out.drew).eff HE.out).f
 go_wp2_with fail
 refine hK.out _ _ KS5.out ?_
 clear hK K zh
 intro zh
 try simp only[Act.put,zA,zB,zC,zD,zE,zF]
 refine wpAnyH_ready (rs:=[7]) (by kernel_rfl) (by simp) ?_
 refine AllReadyH.cons rfl (fun K hK=>?_) AllReadyH.nil
 have QC:=qcall8 B w5 q v R T.bare k who path more A u hp (HTB.out w5 HB5.out) (goodF_of H.out.t G.out.b.good) (by omega) (by have:=G.out.clk;show T.clock≤_;omega) (Nat.le_trans HZ.out HE.out.turn.size) HF5.out
 unfold ptr at QC
 go_simp
 refine QC.mono ?_
 intro ex w6 hq
 have HQ:=hid hq
 obtain⟨rfl,v6,R6,hrt,hru,hro,hrv⟩:=hq
 rw[runE_bare]
 have KS6:=hid (KS.out w6 (fun b h1 h2=>(hru.block b (Nat.lt_of_lt_of_le h2 HE.out.turn.size) (fun hc=>H.out.far h1 (List.mem_append_right _ hc))).trans (eff_far H.out HE.out h1 h2)))
 clear hrt hru hro hrv QC
 go_wp2_with fail
 refine hK.out _ _ KS6.out ?_
 clear hK K zh
 intro zh
 try simp only[Act.put,zA,zB,zC,zD,zE,zF]
 iterate 2
  first|refine' tj 8 rfl rfl (pz hP) ?_ zh ?_|refine' tj 9 rfl rfl (pz hP) ?_ zh ?_
  rotate_left
  · intro wS hS;obtain⟨k0,k1,k2,_⟩:=hS;go_simp;try rfl
  try simp only[Act.put,zA,zB,zC,zD,zE,zF]
 refine wpAnyH_done (by kernel_rfl) ?_ _
 clear zh
 try simp only[Act.put,zA,zB,zC,zD,zE,zF]
 go_wp2_with fail
 refine HKH.out _ _ _ _ _ _ _ _ _ _ _ _ _ _ _ _ _ _ _ _ _ _ _ _ _ _ _ w6 ?_
 exact doq_mk H.out HB02.out.drew (fun b h1 h2 h3=>HOT.out b h3) (by show w.heap.size≤w2.heap.size;rw[HS2.out];exact Nat.le_refl _) HE.out HG5.out HBR.out HQ.out
theorem readD_bare (p:List UInt8) (L:List TE):readD p (L.map bare)=readD p L:=by
 have he:readE p (L.map bare)=readE p L:=readE_bare p ⟨L,0,0,0⟩
 rw[readD,readD,he,getT_bare]
 cases getT (splitL p) L <;> rfl
section
variable (B:Nat) (w:World) (r q:Nat) (T:Tr) (v:Value) (R:List RN) (F:Tr) (k:Nat) (who:Int) (path more:List UInt8) (A:XA) (u:Value)
theorem pread (hp:path.length≤140737488351232) (g:Bd T k) (hk:k≤1000) (h:TreeAt B w r T):
 Calls Tryz.prog 52 #[ptr r,.string ⟨path.toArray⟩] w fun e w'=>e= .returned (.tuple #[.string ⟨(readD path T.L).toArray⟩,.int .i64 (readE path T.L)])∧∃ T',Eff B w r T w' T'∧Bd T' (k+1)∧T'.bare=runN ⟨(9:Int),who,path,more,A,u⟩ T.bare:=by
 refine(read_any B w r T path (by omega) (by have:=g.b.reads;omega) h).mono ?_
 rintro ex w3 ⟨rfl,ht1,hu1⟩
 obtain⟨T',hT'⟩:∃ T':Tr,T'=(if readE path T.L=0 then {T with reads:=T.reads+1} else T):=⟨_,rfl⟩
 rw[←hT'] at ht1
 have hL:T'.L=T.L∧({T' with reads:=T.reads}:Tr)=T:=by
  rw[hT'];split <;> exact⟨rfl,rfl⟩
 have hri:RunIs ⟨(9:Int),who,path,more,A,u⟩ T T':=by
  show if readE path T.L≠0 then T'=T else T'={T with reads:=T.reads+1}
  by_cases h:readE path T.L=0
  · rw[if_neg (by simp[h]),hT',if_pos h]
  · rw[if_pos h,hT',if_neg h]
 have hp:RunP B w r T ⟨(9:Int),who,path,more,A,u⟩ (.returned (.int .i64 (runE ⟨(9:Int),who,path,more,A,u⟩ T))) w3:=
  ⟨rfl,T',ht1,hu1.mono (fun y hy=>by rw[List.mem_singleton] at hy;rw[hy];simp),fun b hb=> .inl (by rw[hL.1] at hb;exact hb),by rw[hL.2];exact .same T,hri⟩
 exact⟨rfl,(RunP.call h g hp).2⟩
theorem qread (hp:path.length≤140737488351232) (hT:Tabs w) (g:GoodF k F) (hk:k≤1000) (hr:F.reads≤1000000) (h:RTree B w q v R F):
 Calls Tryz.prog 53 #[ptr q,.string ⟨path.toArray⟩] w fun e w'=>e= .returned (.tuple #[.string ⟨(readD path F.L).toArray⟩,.int .i64 (readE path F.L)])∧QCall B w q v R F ⟨(9:Int),who,path,more,A,u⟩ (.returned (.int .i64 (runE ⟨(9:Int),who,path,more,A,u⟩ F))) w':=by
 refine(rread_any B w q v R F k path hT (by omega) g hk hr h).mono ?_
 rintro ex w3 ⟨rfl,ht1,hu1⟩
 refine⟨rfl,rfl,v,R,?_,hu1.mono (fun y hy=>by rw[List.mem_singleton] at hy;rw[hy];simp),fun _ h=> .inl h,fun _ h=> .inl h⟩
 have:runN ⟨(9:Int),who,path,more,A,u⟩ F=if readE path F.L=0 then {F with reads:=F.reads+1} else F:=by
  rw[fol_if2];rfl
 rw[this];exact ht1
end
theorem do_arm9 {Q:Exit→Act→World→Prop} (u2 u3 u4 u6 jU jV jW jX jY jZ j0 j1 j2 j3 j4 j5 j6 j7 j8 j9 ya yb yc yd ye yf yg yh yi yj yk yl ym yn yo yp yq yr ys yt yu yv yw yx yy yz yA yB yC yD yE yF yG yH yI yJ yK yL yM yN yO yP yQ yR yS yT yU yV yW yX yY yZ y0 y1 y2 y3 y4 y5 y6 y7 y8 y9 Ja Jb Jc Jd Je Jf Jg Jh Ji Jj Jk Jl Jm Jn Jo Jp Jq Jr Js Jt Ju Jv Jw Jx Jy Jz JA JB JC JD JE JF JG JH JI JJ JK JL JM JN JO JP JQ JR JS JT JU JV JW JX JY JZ J0 J1 J2 J3 J4 J5 J6 J7 J8 J9 Ya Yb Yc Yd Ye Yf Yg Yh Yi Yj Yk Yl Ym Yn Yo Yp Yq Yr Ys Yt Yu Yv Yw Yx Yy Yz YA YB YC YD YE YF YG YH YI YJ YK YL YM YN YO YP YQ YR YS YT YU YV YW YX YY YZ Y0 Y1 Y2 Y3 Y4 Y5 Y6 Y7 Y8 Y9:Value) {B k:Nat} {w0 w:World} {r q xb ab bb:Nat} {T:Tr} {v u v1:Value} {R:List RN} {who:Int} {path more:List UInt8} {A:XA}
 (hP:∀ c (a a':Act) w,a.defers=a'.defers→Q (.panic c) a w→Q (.panic c) a' w) (H:Hid (Pr B w0 r T q v R T.bare)) (G:Hid (Bd T k)) (hk:k≤900) (HBL:Hid (Below w0.heap.size w0 w)) (HTB:Hid (∀ w':World,Below B w0 w'→Tabs w')) (HXB:Hid (w.heap[xb]? =some (.cells (Stp.cells ⟨9,who,path,more,A,u⟩).toArray 69))) (HAB:Hid (w.heap[ab]? =some (.cells (A.cells v1).toArray 79))) (HBB:Hid (w.heap[bb]? =some (.cells (A.cells u).toArray 67)))
 (HN:Hid (w0.heap.size≤xb∧w0.heap.size≤ab∧w0.heap.size≤bb)) (hx1:xb≠bb) (hx2:ab≠bb) (HV:Hid (XsAt w v1 A.xs)) (HVN:Hid (∀ b∈xob A.xs v1,w0.heap.size≤b∧b≠bb)) (HU:Hid (XsAt w0 u A.xs)) (HUB:Hid (∀ b∈xob A.xs u,b < B)) (hp:path.length≤140737488351232) (hm:more.length≤140737488351232) (ht:A.target.length≤140737488351232)
 (HK:∀ (ja jb jc jd je jf jg jh ji jj jk jl jm jn jo jp jq jr js jt ju jv jw jx jy jz jA jB jC jD jE jF jG jH jI jJ jK jL jM jN jO jP jQ jR jS jT:Value) (w':World),DoQ B k w0 w r T q v R bb w'→Q .normal ⟨#[.pointer (some ⟨r,0,none⟩),.pointer (some ⟨q,0,none⟩),u2,u3,u4,.pointer (some ⟨xb,0,none⟩),u6,.pointer (some ⟨ab,0,none⟩),.pointer (some ⟨bb,0,none⟩),.bool true,ja,jb,jc,jd,jY,jZ,j0,j1,j2,j3,j4,.int .i64 9,je,jf,j7,j8,j9,ya,yb,yc,yd,ye,yf,yg,yh,yi,yj,jg,jh,ym,yn,yo,yp,yq,yr,ys,yt,yu,yv,yw,yx,yy,yz,yA,yB,yC,ji,jj,yF,yG,yH,yI,yJ,yK,yL,yM,yN,yO,yP,yQ,yR,yS,yT,yU,yV,jk,jl,yY,yZ,y0,y1,y2,y3,y4,y5,y6,y7,y8,y9,Ja,jm,jn,Jd,Je,Jf,Jg,Jh,Ji,Jj,Jk,Jl,Jm,Jn,Jo,jo,jp,Jr,Js,Jt,Ju,Jv,Jw,Jx,Jy,Jz,JA,JB,JC,JD,JE,JF,JG,JH,JI,JJ,jq,jr,JM,JN,JO,JP,JQ,JR,JS,JT,JU,JV,JW,JX,JY,JZ,J0,js,jt,J3,J4,J5,J6,J7,J8,J9,Ya,Yb,Yc,Yd,Ye,Yf,ju,jv,Yi,Yj,Yk,Yl,Ym,Yn,Yo,Yp,Yq,jw,jx,jy,jz,jA,jB,jC,jD,jE,jF,jG,jH,jI,jJ,jK,jL,jM,jN,jO,jP,jQ,jR,jS,jT,YP,YQ,YR,YS,YT,YU,YV,YW,YX,YY,YZ,Y0,Y1,Y2,Y3,Y4,Y5,Y6,Y7,Y8,Y9],[]⟩ w'):
 Code.wp Tryz.prog (doB 0) Q ⟨#[.pointer (some ⟨r,0,none⟩),.pointer (some ⟨q,0,none⟩),u2,u3,u4,.pointer (some ⟨xb,0,none⟩),u6,.pointer (some ⟨ab,0,none⟩),.pointer (some ⟨bb,0,none⟩),.bool false,jU,jV,jW,jX,jY,jZ,j0,j1,j2,j3,j4,.int .i64 9,j5,j6,j7,j8,j9,ya,yb,yc,yd,ye,yf,yg,yh,yi,yj,yk,yl,ym,yn,yo,yp,yq,yr,ys,yt,yu,yv,yw,yx,yy,yz,yA,yB,yC,yD,yE,yF,yG,yH,yI,yJ,yK,yL,yM,yN,yO,yP,yQ,yR,yS,yT,yU,yV,yW,yX,yY,yZ,y0,y1,y2,y3,y4,y5,y6,y7,y8,y9,Ja,Jb,Jc,Jd,Je,Jf,Jg,Jh,Ji,Jj,Jk,Jl,Jm,Jn,Jo,Jp,Jq,Jr,Js,Jt,Ju,Jv,Jw,Jx,Jy,Jz,JA,JB,JC,JD,JE,JF,JG,JH,JI,JJ,JK,JL,JM,JN,JO,JP,JQ,JR,JS,JT,JU,JV,JW,JX,JY,JZ,J0,J1,J2,J3,J4,J5,J6,J7,J8,J9,Ya,Yb,Yc,Yd,Ye,Yf,Yg,Yh,Yi,Yj,Yk,Yl,Ym,Yn,Yo,Yp,Yq,Yr,Ys,Yt,Yu,Yv,Yw,Yx,Yy,Yz,YA,YB,YC,YD,YE,YF,YG,YH,YI,YJ,YK,YL,YM,YN,YO,YP,YQ,YR,YS,YT,YU,YV,YW,YX,YY,YZ,Y0,Y1,Y2,Y3,Y4,Y5,Y6,Y7,Y8,Y9],[]⟩ w:=by
 have HKH:=hid HK
 clear HK
 conv=>arg 2;whnf
 have HZ:Hid (B≤w.heap.size):=hid (Nat.le_trans H.out.size HBL.out.size)
 have HBW:Hid (B≤w0.heap.size):=hid H.out.size
 have HT2:=hid (H.out.t.below HBL.out)
 have c2:w.cell? ⟨xb,2,none⟩=some (.string ⟨path.toArray⟩):=cell_of_heap HXB.out
 have PC:=hid (pread B w r T k who path more A u hp G.out (by omega) HT2.out)
 unfold ptr at PC
 go_wp2_with fail
 refine PC.out.mono ?_
 rintro ex w5 ⟨rfl,T',he,hg5,hbr⟩
 have HE:=hid he;have HG5:=hid hg5;have HBR:=hid hbr
 have HB5:Hid (Below B w0 w5):=hid ((HBL.out.mono HBW.out).trans (HE.out.below HT2.out HZ.out))
 have HF5:=hid ((H.out.below HBL.out).eff HE.out).f
 have c5:w5.cell? ⟨xb,2,none⟩=some (.string ⟨path.toArray⟩):=(World.cell?_of_block (eff_far H.out HE.out HN.out.1 (lt_of_heap HXB.out))).trans c2
 have QC:=hid (qread B w5 q v R T.bare k who path more A u hp (HTB.out w5 HB5.out) (goodF_of H.out.t G.out.b.good) (by omega) (by have:=G.out.b.reads;show T.reads≤_;omega) HF5.out)
 unfold ptr at QC
 have hrb:readE path T.bare.L=readE path T.L:=readE_bare path T
 have hdb:readD path T.bare.L=readD path T.L:=readD_bare path T.L
 rw[hrb,hdb] at QC
 obtain⟨c,hc⟩:∃ c,c=readE path T.L:=⟨_,rfl⟩
 obtain⟨d,hd⟩:∃ d,d=readD path T.L:=⟨_,rfl⟩
 rw[←hc,←hd] at QC ⊢
 clear he hg5 hbr PC c2 hrb hdb hc hd
 go_wp2_with fail
 refine QC.out.mono ?_
 rintro ex w6 ⟨rfl,hq⟩
 have HQ:=hid hq
 clear hq QC c5
 go_wp2_with fail
 refine HKH.out _ _ _ _ _ _ _ _ _ _ _ _ _ _ _ _ _ _ _ _ _ _ _ _ _ _ _ _ _ _ _ _ _ _ _ _ _ _ _ _ _ _ _ _ _ _ w6 ?_
 exact doq_mk H.out HBL.out (fun b h1 h2 h3=>rfl) (Nat.le_refl _) HE.out HG5.out HBR.out HQ.out
theorem do_armx {Q:Exit→Act→World→Prop} (u2 u3 u4 u6 jU jV jW jX jY jZ j0 j1 j2 j3 j4 j5 j6 j7 j8 j9 ya yb yc yd ye yf yg yh yi yj yk yl ym yn yo yp yq yr ys yt yu yv yw yx yy yz yA yB yC yD yE yF yG yH yI yJ yK yL yM yN yO yP yQ yR yS yT yU yV yW yX yY yZ y0 y1 y2 y3 y4 y5 y6 y7 y8 y9 Ja Jb Jc Jd Je Jf Jg Jh Ji Jj Jk Jl Jm Jn Jo Jp Jq Jr Js Jt Ju Jv Jw Jx Jy Jz JA JB JC JD JE JF JG JH JI JJ JK JL JM JN JO JP JQ JR JS JT JU JV JW JX JY JZ J0 J1 J2 J3 J4 J5 J6 J7 J8 J9 Ya Yb Yc Yd Ye Yf Yg Yh Yi Yj Yk Yl Ym Yn Yo Yp Yq Yr Ys Yt Yu Yv Yw Yx Yy Yz YA YB YC YD YE YF YG YH YI YJ YK YL YM YN YO YP YQ YR YS YT YU YV YW YX YY YZ Y0 Y1 Y2 Y3 Y4 Y5 Y6 Y7 Y8 Y9:Value) {kind:Int} {B k:Nat} {w0 w:World} {r q xb ab bb:Nat} {T:Tr} {v u v1:Value} {R:List RN} {who:Int} {path more:List UInt8} {A:XA}
 (hP:∀ c (a a':Act) w,a.defers=a'.defers→Q (.panic c) a w→Q (.panic c) a' w) (H:Hid (Pr B w0 r T q v R T.bare)) (G:Hid (Bd T k)) (HBL:Hid (Below w0.heap.size w0 w)) (hkd:kind < 0∨9 < kind)
 (HK:∀ (je jf jg jh ji jj jk jl jm jn jo jp jq jr js jt ju jv jw jx:Value) (w':World),DoQ B k w0 w r T q v R bb w'→Q .normal ⟨#[.pointer (some ⟨r,0,none⟩),.pointer (some ⟨q,0,none⟩),u2,u3,u4,.pointer (some ⟨xb,0,none⟩),u6,.pointer (some ⟨ab,0,none⟩),.pointer (some ⟨bb,0,none⟩),.bool true,jU,jV,jW,jX,jY,jZ,j0,j1,j2,j3,j4,.int .i64 kind,je,jf,j7,j8,j9,ya,yb,yc,yd,ye,yf,yg,yh,yi,yj,jg,jh,ym,yn,yo,yp,yq,yr,ys,yt,yu,yv,yw,yx,yy,yz,yA,yB,yC,ji,jj,yF,yG,yH,yI,yJ,yK,yL,yM,yN,yO,yP,yQ,yR,yS,yT,yU,yV,jk,jl,yY,yZ,y0,y1,y2,y3,y4,y5,y6,y7,y8,y9,Ja,jm,jn,Jd,Je,Jf,Jg,Jh,Ji,Jj,Jk,Jl,Jm,Jn,Jo,jo,jp,Jr,Js,Jt,Ju,Jv,Jw,Jx,Jy,Jz,JA,JB,JC,JD,JE,JF,JG,JH,JI,JJ,jq,jr,JM,JN,JO,JP,JQ,JR,JS,JT,JU,JV,JW,JX,JY,JZ,J0,js,jt,J3,J4,J5,J6,J7,J8,J9,Ya,Yb,Yc,Yd,Ye,Yf,ju,jv,Yi,Yj,Yk,Yl,Ym,Yn,Yo,Yp,Yq,jw,jx,Yt,Yu,Yv,Yw,Yx,Yy,Yz,YA,YB,YC,YD,YE,YF,YG,YH,YI,YJ,YK,YL,YM,YN,YO,YP,YQ,YR,YS,YT,YU,YV,YW,YX,YY,YZ,Y0,Y1,Y2,Y3,Y4,Y5,Y6,Y7,Y8,Y9],[]⟩ w'):
 Code.wp Tryz.prog (doB 0) Q ⟨#[.pointer (some ⟨r,0,none⟩),.pointer (some ⟨q,0,none⟩),u2,u3,u4,.pointer (some ⟨xb,0,none⟩),u6,.pointer (some ⟨ab,0,none⟩),.pointer (some ⟨bb,0,none⟩),.bool false,jU,jV,jW,jX,jY,jZ,j0,j1,j2,j3,j4,.int .i64 kind,j5,j6,j7,j8,j9,ya,yb,yc,yd,ye,yf,yg,yh,yi,yj,yk,yl,ym,yn,yo,yp,yq,yr,ys,yt,yu,yv,yw,yx,yy,yz,yA,yB,yC,yD,yE,yF,yG,yH,yI,yJ,yK,yL,yM,yN,yO,yP,yQ,yR,yS,yT,yU,yV,yW,yX,yY,yZ,y0,y1,y2,y3,y4,y5,y6,y7,y8,y9,Ja,Jb,Jc,Jd,Je,Jf,Jg,Jh,Ji,Jj,Jk,Jl,Jm,Jn,Jo,Jp,Jq,Jr,Js,Jt,Ju,Jv,Jw,Jx,Jy,Jz,JA,JB,JC,JD,JE,JF,JG,JH,JI,JJ,JK,JL,JM,JN,JO,JP,JQ,JR,JS,JT,JU,JV,JW,JX,JY,JZ,J0,J1,J2,J3,J4,J5,J6,J7,J8,J9,Ya,Yb,Yc,Yd,Ye,Yf,Yg,Yh,Yi,Yj,Yk,Yl,Ym,Yn,Yo,Yp,Yq,Yr,Ys,Yt,Yu,Yv,Yw,Yx,Yy,Yz,YA,YB,YC,YD,YE,YF,YG,YH,YI,YJ,YK,YL,YM,YN,YO,YP,YQ,YR,YS,YT,YU,YV,YW,YX,YY,YZ,Y0,Y1,Y2,Y3,Y4,Y5,Y6,Y7,Y8,Y9],[]⟩ w:=by
 have HKH:=hid HK
 clear HK
 conv=>arg 2;whnf
 have b0:((kind:Int)==0)=false:=by rw[beq_eq_false_iff_ne];omega
 have b1:((kind:Int)==1)=false:=by rw[beq_eq_false_iff_ne];omega
 have b2:((kind:Int)==2)=false:=by rw[beq_eq_false_iff_ne];omega
 have b3:((kind:Int)==3)=false:=by rw[beq_eq_false_iff_ne];omega
 have b4:((kind:Int)==4)=false:=by rw[beq_eq_false_iff_ne];omega
 have b5:((kind:Int)==5)=false:=by rw[beq_eq_false_iff_ne];omega
 have b6:((kind:Int)==6)=false:=by rw[beq_eq_false_iff_ne];omega
 have b7:((kind:Int)==7)=false:=by rw[beq_eq_false_iff_ne];omega
 have b8:((kind:Int)==8)=false:=by rw[beq_eq_false_iff_ne];omega
 have b9:((kind:Int)==9)=false:=by rw[beq_eq_false_iff_ne];omega
 go_wp2_with fail
 refine HKH.out _ _ _ _ _ _ _ _ _ _ _ _ _ _ _ _ _ _ _ _ w ?_
 exact doq_same H.out G.out HBL.out
theorem do_sw {Q:Exit→Act→World→Prop} (u2 u3 u4 u6 JY JZ J0 J1 J2 J3 J4 J5 J6 J7 J8 J9 Ya Yb Yc Yd Ye Yf Yg Yh Yi Yj Yk Yl Ym Yn Yo Yp Yq Yr Ys Yt Yu Yv Yw Yx Yy Yz YA YB YC YD YE YF YG YH YI YJ YK YL YM YN YO YP YQ YR YS YT YU YV YW YX YY YZ Y0 Y1 Y2 Y3 Y4 Y5 Y6 Y7 Y8 Y9 Xa Xb Xc Xd Xe Xf Xg Xh Xi Xj Xk Xl Xm Xn Xo Xp Xq Xr Xs Xt Xu Xv Xw Xx Xy Xz XB XC XD XE XF XG XH XI XJ XK XL XM XN XO XP XQ XR XS XT XU XV XW XX XY XZ X0 X1 X2 X3 X4 X5 X6 X7 X8 X9 Za Zb Zc Zd Ze Zf Zg Zh Zi Zj Zk Zl Zm Zn Zo Zp Zq Zr Zs Zt Zu Zv Zw Zx Zy Zz ZA ZB ZC ZD ZE ZF ZG ZH ZI ZJ ZK ZL ZM ZN ZO ZP ZQ ZR ZS ZT ZU ZV ZW ZX ZY ZZ Z0 Z1 Z2 Z3 Z4 Z5 Z6 Z7 Z8 Z9 Wa Wb Wc Wd We:Value) {kind:Int} {B k:Nat} {w0 w:World} {r q xb ab bb:Nat} {T:Tr} {v u v1:Value} {R:List RN} {who:Int} {path more:List UInt8} {A:XA}
 (hP:∀ c (a a':Act) w,a.defers=a'.defers→Q (.panic c) a w→Q (.panic c) a' w) (H:Hid (Pr B w0 r T q v R T.bare)) (G:Hid (Bd T k)) (hk:k≤900) (HBL:Hid (Below w0.heap.size w0 w)) (HTB:Hid (∀ w':World,Below B w0 w'→Tabs w')) (HXB:Hid (w.heap[xb]? =some (.cells (Stp.cells ⟨kind,who,path,more,A,u⟩).toArray 69))) (HAB:Hid (w.heap[ab]? =some (.cells (A.cells v1).toArray 79))) (HBB:Hid (w.heap[bb]? =some (.cells (A.cells u).toArray 67)))
 (HN:Hid (w0.heap.size≤xb∧w0.heap.size≤ab∧w0.heap.size≤bb)) (hx1:xb≠bb) (hx2:ab≠bb) (HV:Hid (XsAt w v1 A.xs)) (HVN:Hid (∀ b∈xob A.xs v1,w0.heap.size≤b∧b≠bb)) (HU:Hid (XsAt w0 u A.xs)) (HUB:Hid (∀ b∈xob A.xs u,b < B)) (hp:path.length≤140737488351232) (hm:more.length≤140737488351232) (ht:A.target.length≤140737488351232)
 (HK:∀ (ja jb jc jd je jf jg jh ji jj jk jl jm jn jo jp jq jr js jt ju jv jw jx jy jz jA jB jC jD jE jF jG jH jI jJ jK jL jM jN jO jP jQ jR jS jT jU jV jW jX jY jZ j0 j1 j2 j3 j4 j5 j6 j7 j8 j9 ya yb yc yd ye yf yg yh yi yj yk yl ym yn yo yp yq yr ys yt yu yv yw yx yy yz yA yB yC yD yE yF yG yH yI yJ yK yL yM yN yO yP yQ yR yS yT yU yV yW yX yY yZ y0 y1 y2 y3 y4 y5 y6 y7 y8 y9 Ja Jb Jc Jd Je Jf Jg Jh Ji Jj Jk Jl Jm Jn Jo Jp Jq Jr Js Jt Ju Jv Jw Jx Jy Jz JA JB JC JD JE JF JG JH JI JJ JK JL JM JN JO JP JQ JR JS JT JU JV JW JX:Value) (w':World),DoQ B k w0 w r T q v R bb w'→Q .normal ⟨#[.pointer (some ⟨r,0,none⟩),.pointer (some ⟨q,0,none⟩),u2,u3,u4,.pointer (some ⟨xb,0,none⟩),u6,.pointer (some ⟨ab,0,none⟩),.pointer (some ⟨bb,0,none⟩),.bool true,ja,jb,jc,jd,J2,J3,J4,J5,J6,J7,J8,.int .i64 kind,je,jf,jg,jh,ji,jj,jk,jl,jm,jn,jo,jp,jq,jr,js,jt,ju,jv,jw,jx,jy,jz,jA,jB,jC,jD,jE,jF,jG,jH,jI,jJ,jK,jL,jM,jN,jO,jP,jQ,jR,jS,jT,jU,jV,jW,jX,jY,jZ,j0,j1,j2,j3,j4,j5,j6,j7,j8,j9,ya,yb,yc,yd,ye,yf,yg,yh,yi,yj,yk,yl,ym,yn,yo,yp,yq,yr,ys,yt,yu,yv,yw,yx,yy,yz,yA,yB,yC,yD,yE,yF,yG,yH,yI,yJ,yK,yL,yM,yN,yO,yP,yQ,yR,yS,yT,yU,yV,yW,yX,yY,yZ,y0,y1,y2,y3,y4,y5,y6,y7,y8,y9,Ja,Jb,Jc,Jd,Je,Jf,Jg,Jh,Ji,Jj,Jk,Jl,Jm,Jn,Jo,Jp,Jq,Jr,Js,Jt,Ju,Jv,Jw,Jx,Jy,Jz,JA,JB,JC,JD,JE,JF,JG,JH,JI,JJ,JK,JL,JM,JN,JO,JP,JQ,JR,JS,JT,JU,JV,JW,JX,ZU,ZV,ZW,ZX,ZY,ZZ,Z0,Z1,Z2,Z3,Z4,Z5,Z6,Z7,Z8,Z9,Wa,Wb,Wc,Wd,We],[]⟩ w'):
 Code.wp Tryz.prog (doB 0) Q ⟨#[.pointer (some ⟨r,0,none⟩),.pointer (some ⟨q,0,none⟩),u2,u3,u4,.pointer (some ⟨xb,0,none⟩),u6,.pointer (some ⟨ab,0,none⟩),.pointer (some ⟨bb,0,none⟩),.bool false,JY,JZ,J0,J1,J2,J3,J4,J5,J6,J7,J8,.int .i64 kind,J9,Ya,Yb,Yc,Yd,Ye,Yf,Yg,Yh,Yi,Yj,Yk,Yl,Ym,Yn,Yo,Yp,Yq,Yr,Ys,Yt,Yu,Yv,Yw,Yx,Yy,Yz,YA,YB,YC,YD,YE,YF,YG,YH,YI,YJ,YK,YL,YM,YN,YO,YP,YQ,YR,YS,YT,YU,YV,YW,YX,YY,YZ,Y0,Y1,Y2,Y3,Y4,Y5,Y6,Y7,Y8,Y9,Xa,Xb,Xc,Xd,Xe,Xf,Xg,Xh,Xi,Xj,Xk,Xl,Xm,Xn,Xo,Xp,Xq,Xr,Xs,Xt,Xu,Xv,Xw,Xx,Xy,Xz,XB,XC,XD,XE,XF,XG,XH,XI,XJ,XK,XL,XM,XN,XO,XP,XQ,XR,XS,XT,XU,XV,XW,XX,XY,XZ,X0,X1,X2,X3,X4,X5,X6,X7,X8,X9,Za,Zb,Zc,Zd,Ze,Zf,Zg,Zh,Zi,Zj,Zk,Zl,Zm,Zn,Zo,Zp,Zq,Zr,Zs,Zt,Zu,Zv,Zw,Zx,Zy,Zz,ZA,ZB,ZC,ZD,ZE,ZF,ZG,ZH,ZI,ZJ,ZK,ZL,ZM,ZN,ZO,ZP,ZQ,ZR,ZS,ZT,ZU,ZV,ZW,ZX,ZY,ZZ,Z0,Z1,Z2,Z3,Z4,Z5,Z6,Z7,Z8,Z9,Wa,Wb,Wc,Wd,We],[]⟩ w:=by
 by_cases e0:kind=0
 · subst e0
   exact do_arm0 _ _ _ _ _ _ _ _ _ _ _ _ _ _ _ _ _ _ _ _ _ _ _ _ _ _ _ _ _ _ _ _ _ _ _ _ _ _ _ _ _ _ _ _ _ _ _ _ _ _ _ _ _ _ _ _ _ _ _ _ _ _ _ _ _ _ _ _ _ _ _ _ _ _ _ _ _ _ _ _ _ _ _ _ _ _ _ _ _ _ _ _ _ _ _ _ _ _ _ _ _ _ _ _ _ _ _ _ _ _ _ _ _ _ _ _ _ _ _ _ _ _ _ _ _ _ _ _ _ _ _ _ _ _ _ _ _ _ _ _ _ _ _ _ _ _ _ _ _ _ _ _ _ _ _ _ _ _ _ _ _ _ _ _ _ _ _ _ _ _ _ _ _ _ _ _ _ _ _ _ _ _ _ _ _ _ _ _ _ _ _ _ _ _ _ _ _ _ _ _ _ _ _ _ _ _ (fun c a a' w hd h=>hP c a a' w hd h) H G hk HBL HTB HXB HAB HBB HN hx1 hx2 HV HVN HU HUB hp hm ht (fun _ _ _ _ _ _ _ _ _ _ _ _ _ _ _ w' h=>HK _ _ _ _ _ _ _ _ _ _ _ _ _ _ _ _ _ _ _ _ _ _ _ _ _ _ _ _ _ _ _ _ _ _ _ _ _ _ _ _ _ _ _ _ _ _ _ _ _ _ _ _ _ _ _ _ _ _ _ _ _ _ _ _ _ _ _ _ _ _ _ _ _ _ _ _ _ _ _ _ _ _ _ _ _ _ _ _ _ _ _ _ _ _ _ _ _ _ _ _ _ _ _ _ _ _ _ _ _ _ _ _ _ _ _ _ _ _ _ _ _ _ _ _ _ _ _ _ _ _ _ _ _ _ _ _ _ _ _ _ _ _ _ _ _ _ _ _ _ _ _ _ _ _ _ _ _ _ _ _ _ _ _ _ _ _ _ _ _ _ _ _ _ _ w' h)
 by_cases e1:kind=1
 · subst e1
   exact do_arm1 _ _ _ _ _ _ _ _ _ _ _ _ _ _ _ _ _ _ _ _ _ _ _ _ _ _ _ _ _ _ _ _ _ _ _ _ _ _ _ _ _ _ _ _ _ _ _ _ _ _ _ _ _ _ _ _ _ _ _ _ _ _ _ _ _ _ _ _ _ _ _ _ _ _ _ _ _ _ _ _ _ _ _ _ _ _ _ _ _ _ _ _ _ _ _ _ _ _ _ _ _ _ _ _ _ _ _ _ _ _ _ _ _ _ _ _ _ _ _ _ _ _ _ _ _ _ _ _ _ _ _ _ _ _ _ _ _ _ _ _ _ _ _ _ _ _ _ _ _ _ _ _ _ _ _ _ _ _ _ _ _ _ _ _ _ _ _ _ _ _ _ _ _ _ _ _ _ _ _ _ _ _ _ _ _ _ _ _ _ _ _ _ _ _ _ _ _ _ _ _ _ _ _ _ _ _ (fun c a a' w hd h=>hP c a a' w hd h) H G hk HBL HTB HXB HAB HBB HN hx1 hx2 HV HVN HU HUB hp hm ht (fun _ _ _ _ _ _ _ _ _ _ _ _ _ _ _ _ _ _ _ _ _ w' h=>HK _ _ _ _ _ _ _ _ _ _ _ _ _ _ _ _ _ _ _ _ _ _ _ _ _ _ _ _ _ _ _ _ _ _ _ _ _ _ _ _ _ _ _ _ _ _ _ _ _ _ _ _ _ _ _ _ _ _ _ _ _ _ _ _ _ _ _ _ _ _ _ _ _ _ _ _ _ _ _ _ _ _ _ _ _ _ _ _ _ _ _ _ _ _ _ _ _ _ _ _ _ _ _ _ _ _ _ _ _ _ _ _ _ _ _ _ _ _ _ _ _ _ _ _ _ _ _ _ _ _ _ _ _ _ _ _ _ _ _ _ _ _ _ _ _ _ _ _ _ _ _ _ _ _ _ _ _ _ _ _ _ _ _ _ _ _ _ _ _ _ _ _ _ _ w' h)
 by_cases e2:kind=2
 · subst e2
   exact do_arm2 _ _ _ _ _ _ _ _ _ _ _ _ _ _ _ _ _ _ _ _ _ _ _ _ _ _ _ _ _ _ _ _ _ _ _ _ _ _ _ _ _ _ _ _ _ _ _ _ _ _ _ _ _ _ _ _ _ _ _ _ _ _ _ _ _ _ _ _ _ _ _ _ _ _ _ _ _ _ _ _ _ _ _ _ _ _ _ _ _ _ _ _ _ _ _ _ _ _ _ _ _ _ _ _ _ _ _ _ _ _ _ _ _ _ _ _ _ _ _ _ _ _ _ _ _ _ _ _ _ _ _ _ _ _ _ _ _ _ _ _ _ _ _ _ _ _ _ _ _ _ _ _ _ _ _ _ _ _ _ _ _ _ _ _ _ _ _ _ _ _ _ _ _ _ _ _ _ _ _ _ _ _ _ _ _ _ _ _ _ _ _ _ _ _ _ _ _ _ _ _ _ _ _ _ _ _ (fun c a a' w hd h=>hP c a a' w hd h) H G hk HBL HTB HXB HAB HBB HN hx1 hx2 HV HVN HU HUB hp hm ht (fun _ _ _ _ _ _ _ _ _ _ _ _ _ _ _ _ _ _ _ _ _ _ _ w' h=>HK _ _ _ _ _ _ _ _ _ _ _ _ _ _ _ _ _ _ _ _ _ _ _ _ _ _ _ _ _ _ _ _ _ _ _ _ _ _ _ _ _ _ _ _ _ _ _ _ _ _ _ _ _ _ _ _ _ _ _ _ _ _ _ _ _ _ _ _ _ _ _ _ _ _ _ _ _ _ _ _ _ _ _ _ _ _ _ _ _ _ _ _ _ _ _ _ _ _ _ _ _ _ _ _ _ _ _ _ _ _ _ _ _ _ _ _ _ _ _ _ _ _ _ _ _ _ _ _ _ _ _ _ _ _ _ _ _ _ _ _ _ _ _ _ _ _ _ _ _ _ _ _ _ _ _ _ _ _ _ _ _ _ _ _ _ _ _ _ _ _ _ _ _ _ w' h)
 by_cases e3:kind=3
 · subst e3
   exact do_arm3 _ _ _ _ _ _ _ _ _ _ _ _ _ _ _ _ _ _ _ _ _ _ _ _ _ _ _ _ _ _ _ _ _ _ _ _ _ _ _ _ _ _ _ _ _ _ _ _ _ _ _ _ _ _ _ _ _ _ _ _ _ _ _ _ _ _ _ _ _ _ _ _ _ _ _ _ _ _ _ _ _ _ _ _ _ _ _ _ _ _ _ _ _ _ _ _ _ _ _ _ _ _ _ _ _ _ _ _ _ _ _ _ _ _ _ _ _ _ _ _ _ _ _ _ _ _ _ _ _ _ _ _ _ _ _ _ _ _ _ _ _ _ _ _ _ _ _ _ _ _ _ _ _ _ _ _ _ _ _ _ _ _ _ _ _ _ _ _ _ _ _ _ _ _ _ _ _ _ _ _ _ _ _ _ _ _ _ _ _ _ _ _ _ _ _ _ _ _ _ _ _ _ _ _ _ _ (fun c a a' w hd h=>hP c a a' w hd h) H G hk HBL HTB HXB HAB HBB HN hx1 hx2 HV HVN HU HUB hp hm ht (fun _ _ _ _ _ _ _ _ _ _ _ _ _ _ _ _ _ _ _ _ _ w' h=>HK _ _ _ _ _ _ _ _ _ _ _ _ _ _ _ _ _ _ _ _ _ _ _ _ _ _ _ _ _ _ _ _ _ _ _ _ _ _ _ _ _ _ _ _ _ _ _ _ _ _ _ _ _ _ _ _ _ _ _ _ _ _ _ _ _ _ _ _ _ _ _ _ _ _ _ _ _ _ _ _ _ _ _ _ _ _ _ _ _ _ _ _ _ _ _ _ _ _ _ _ _ _ _ _ _ _ _ _ _ _ _ _ _ _ _ _ _ _ _ _ _ _ _ _ _ _ _ _ _ _ _ _ _ _ _ _ _ _ _ _ _ _ _ _ _ _ _ _ _ _ _ _ _ _ _ _ _ _ _ _ _ _ _ _ _ _ _ _ _ _ _ _ _ _ w' h)
 by_cases e4:kind=4
 · subst e4
   exact do_arm4 _ _ _ _ _ _ _ _ _ _ _ _ _ _ _ _ _ _ _ _ _ _ _ _ _ _ _ _ _ _ _ _ _ _ _ _ _ _ _ _ _ _ _ _ _ _ _ _ _ _ _ _ _ _ _ _ _ _ _ _ _ _ _ _ _ _ _ _ _ _ _ _ _ _ _ _ _ _ _ _ _ _ _ _ _ _ _ _ _ _ _ _ _ _ _ _ _ _ _ _ _ _ _ _ _ _ _ _ _ _ _ _ _ _ _ _ _ _ _ _ _ _ _ _ _ _ _ _ _ _ _ _ _ _ _ _ _ _ _ _ _ _ _ _ _ _ _ _ _ _ _ _ _ _ _ _ _ _ _ _ _ _ _ _ _ _ _ _ _ _ _ _ _ _ _ _ _ _ _ _ _ _ _ _ _ _ _ _ _ _ _ _ _ _ _ _ _ _ _ _ _ _ _ _ _ _ (fun c a a' w hd h=>hP c a a' w hd h) H G hk HBL HTB HXB HAB HBB HN hx1 hx2 HV HVN HU HUB hp hm ht (fun _ _ _ _ _ _ _ _ _ _ _ _ _ _ _ _ _ _ _ _ _ _ w' h=>HK _ _ _ _ _ _ _ _ _ _ _ _ _ _ _ _ _ _ _ _ _ _ _ _ _ _ _ _ _ _ _ _ _ _ _ _ _ _ _ _ _ _ _ _ _ _ _ _ _ _ _ _ _ _ _ _ _ _ _ _ _ _ _ _ _ _ _ _ _ _ _ _ _ _ _ _ _ _ _ _ _ _ _ _ _ _ _ _ _ _ _ _ _ _ _ _ _ _ _ _ _ _ _ _ _ _ _ _ _ _ _ _ _ _ _ _ _ _ _ _ _ _ _ _ _ _ _ _ _ _ _ _ _ _ _ _ _ _ _ _ _ _ _ _ _ _ _ _ _ _ _ _ _ _ _ _ _ _ _ _ _ _ _ _ _ _ _ _ _ _ _ _ _ _ w' h)
 by_cases e5:kind=5
 · subst e5
   exact do_arm5 _ _ _ _ _ _ _ _ _ _ _ _ _ _ _ _ _ _ _ _ _ _ _ _ _ _ _ _ _ _ _ _ _ _ _ _ _ _ _ _ _ _ _ _ _ _ _ _ _ _ _ _ _ _ _ _ _ _ _ _ _ _ _ _ _ _ _ _ _ _ _ _ _ _ _ _ _ _ _ _ _ _ _ _ _ _ _ _ _ _ _ _ _ _ _ _ _ _ _ _ _ _ _ _ _ _ _ _ _ _ _ _ _ _ _ _ _ _ _ _ _ _ _ _ _ _ _ _ _ _ _ _ _ _ _ _ _ _ _ _ _ _ _ _ _ _ _ _ _ _ _ _ _ _ _ _ _ _ _ _ _ _ _ _ _ _ _ _ _ _ _ _ _ _ _ _ _ _ _ _ _ _ _ _ _ _ _ _ _ _ _ _ _ _ _ _ _ _ _ _ _ _ _ _ _ _ (fun c a a' w hd h=>hP c a a' w hd h) H G hk HBL HTB HXB HAB HBB HN hx1 hx2 HV HVN HU HUB hp hm ht (fun _ _ _ _ _ _ _ _ _ _ _ _ _ _ _ _ _ _ _ _ _ _ _ _ _ _ _ _ _ _ _ w' h=>HK _ _ _ _ _ _ _ _ _ _ _ _ _ _ _ _ _ _ _ _ _ _ _ _ _ _ _ _ _ _ _ _ _ _ _ _ _ _ _ _ _ _ _ _ _ _ _ _ _ _ _ _ _ _ _ _ _ _ _ _ _ _ _ _ _ _ _ _ _ _ _ _ _ _ _ _ _ _ _ _ _ _ _ _ _ _ _ _ _ _ _ _ _ _ _ _ _ _ _ _ _ _ _ _ _ _ _ _ _ _ _ _ _ _ _ _ _ _ _ _ _ _ _ _ _ _ _ _ _ _ _ _ _ _ _ _ _ _ _ _ _ _ _ _ _ _ _ _ _ _ _ _ _ _ _ _ _ _ _ _ _ _ _ _ _ _ _ _ _ _ _ _ _ _ w' h)
 by_cases e6:kind=6
 · subst e6
   exact do_arm6 _ _ _ _ _ _ _ _ _ _ _ _ _ _ _ _ _ _ _ _ _ _ _ _ _ _ _ _ _ _ _ _ _ _ _ _ _ _ _ _ _ _ _ _ _ _ _ _ _ _ _ _ _ _ _ _ _ _ _ _ _ _ _ _ _ _ _ _ _ _ _ _ _ _ _ _ _ _ _ _ _ _ _ _ _ _ _ _ _ _ _ _ _ _ _ _ _ _ _ _ _ _ _ _ _ _ _ _ _ _ _ _ _ _ _ _ _ _ _ _ _ _ _ _ _ _ _ _ _ _ _ _ _ _ _ _ _ _ _ _ _ _ _ _ _ _ _ _ _ _ _ _ _ _ _ _ _ _ _ _ _ _ _ _ _ _ _ _ _ _ _ _ _ _ _ _ _ _ _ _ _ _ _ _ _ _ _ _ _ _ _ _ _ _ _ _ _ _ _ _ _ _ _ _ _ _ (fun c a a' w hd h=>hP c a a' w hd h) H G hk HBL HTB HXB HAB HBB HN hx1 hx2 HV HVN HU HUB hp hm ht (fun _ _ _ _ _ _ _ _ _ _ _ _ _ _ _ _ _ _ _ _ _ _ _ _ _ _ _ _ _ w' h=>HK _ _ _ _ _ _ _ _ _ _ _ _ _ _ _ _ _ _ _ _ _ _ _ _ _ _ _ _ _ _ _ _ _ _ _ _ _ _ _ _ _ _ _ _ _ _ _ _ _ _ _ _ _ _ _ _ _ _ _ _ _ _ _ _ _ _ _ _ _ _ _ _ _ _ _ _ _ _ _ _ _ _ _ _ _ _ _ _ _ _ _ _ _ _ _ _ _ _ _ _ _ _ _ _ _ _ _ _ _ _ _ _ _ _ _ _ _ _ _ _ _ _ _ _ _ _ _ _ _ _ _ _ _ _ _ _ _ _ _ _ _ _ _ _ _ _ _ _ _ _ _ _ _ _ _ _ _ _ _ _ _ _ _ _ _ _ _ _ _ _ _ _ _ _ w' h)
 by_cases e7:kind=7
 · subst e7
   exact do_arm7 _ _ _ _ _ _ _ _ _ _ _ _ _ _ _ _ _ _ _ _ _ _ _ _ _ _ _ _ _ _ _ _ _ _ _ _ _ _ _ _ _ _ _ _ _ _ _ _ _ _ _ _ _ _ _ _ _ _ _ _ _ _ _ _ _ _ _ _ _ _ _ _ _ _ _ _ _ _ _ _ _ _ _ _ _ _ _ _ _ _ _ _ _ _ _ _ _ _ _ _ _ _ _ _ _ _ _ _ _ _ _ _ _ _ _ _ _ _ _ _ _ _ _ _ _ _ _ _ _ _ _ _ _ _ _ _ _ _ _ _ _ _ _ _ _ _ _ _ _ _ _ _ _ _ _ _ _ _ _ _ _ _ _ _ _ _ _ _ _ _ _ _ _ _ _ _ _ _ _ _ _ _ _ _ _ _ _ _ _ _ _ _ _ _ _ _ _ _ _ _ _ _ _ _ _ _ (fun c a a' w hd h=>hP c a a' w hd h) H G hk HBL HTB HXB HAB HBB HN hx1 hx2 HV HVN HU HUB hp hm ht (fun _ _ _ _ _ _ _ _ _ _ _ _ _ _ _ _ _ _ _ _ _ _ _ _ _ _ _ _ _ w' h=>HK _ _ _ _ _ _ _ _ _ _ _ _ _ _ _ _ _ _ _ _ _ _ _ _ _ _ _ _ _ _ _ _ _ _ _ _ _ _ _ _ _ _ _ _ _ _ _ _ _ _ _ _ _ _ _ _ _ _ _ _ _ _ _ _ _ _ _ _ _ _ _ _ _ _ _ _ _ _ _ _ _ _ _ _ _ _ _ _ _ _ _ _ _ _ _ _ _ _ _ _ _ _ _ _ _ _ _ _ _ _ _ _ _ _ _ _ _ _ _ _ _ _ _ _ _ _ _ _ _ _ _ _ _ _ _ _ _ _ _ _ _ _ _ _ _ _ _ _ _ _ _ _ _ _ _ _ _ _ _ _ _ _ _ _ _ _ _ _ _ _ _ _ _ _ w' h)
 by_cases e8:kind=8
 · subst e8
   exact do_arm8 _ _ _ _ _ _ _ _ _ _ _ _ _ _ _ _ _ _ _ _ _ _ _ _ _ _ _ _ _ _ _ _ _ _ _ _ _ _ _ _ _ _ _ _ _ _ _ _ _ _ _ _ _ _ _ _ _ _ _ _ _ _ _ _ _ _ _ _ _ _ _ _ _ _ _ _ _ _ _ _ _ _ _ _ _ _ _ _ _ _ _ _ _ _ _ _ _ _ _ _ _ _ _ _ _ _ _ _ _ _ _ _ _ _ _ _ _ _ _ _ _ _ _ _ _ _ _ _ _ _ _ _ _ _ _ _ _ _ _ _ _ _ _ _ _ _ _ _ _ _ _ _ _ _ _ _ _ _ _ _ _ _ _ _ _ _ _ _ _ _ _ _ _ _ _ _ _ _ _ _ _ _ _ _ _ _ _ _ _ _ _ _ _ _ _ _ _ _ _ _ _ _ _ _ _ _ (fun c a a' w hd h=>hP c a a' w hd h) H G hk HBL HTB HXB HAB HBB HN hx1 hx2 HV HVN HU HUB hp hm ht (fun _ _ _ _ _ _ _ _ _ _ _ _ _ _ _ _ _ _ _ _ _ _ _ _ _ _ _ w' h=>HK _ _ _ _ _ _ _ _ _ _ _ _ _ _ _ _ _ _ _ _ _ _ _ _ _ _ _ _ _ _ _ _ _ _ _ _ _ _ _ _ _ _ _ _ _ _ _ _ _ _ _ _ _ _ _ _ _ _ _ _ _ _ _ _ _ _ _ _ _ _ _ _ _ _ _ _ _ _ _ _ _ _ _ _ _ _ _ _ _ _ _ _ _ _ _ _ _ _ _ _ _ _ _ _ _ _ _ _ _ _ _ _ _ _ _ _ _ _ _ _ _ _ _ _ _ _ _ _ _ _ _ _ _ _ _ _ _ _ _ _ _ _ _ _ _ _ _ _ _ _ _ _ _ _ _ _ _ _ _ _ _ _ _ _ _ _ _ _ _ _ _ _ _ _ w' h)
 by_cases e9:kind=9
 · subst e9
   exact do_arm9 _ _ _ _ _ _ _ _ _ _ _ _ _ _ _ _ _ _ _ _ _ _ _ _ _ _ _ _ _ _ _ _ _ _ _ _ _ _ _ _ _ _ _ _ _ _ _ _ _ _ _ _ _ _ _ _ _ _ _ _ _ _ _ _ _ _ _ _ _ _ _ _ _ _ _ _ _ _ _ _ _ _ _ _ _ _ _ _ _ _ _ _ _ _ _ _ _ _ _ _ _ _ _ _ _ _ _ _ _ _ _ _ _ _ _ _ _ _ _ _ _ _ _ _ _ _ _ _ _ _ _ _ _ _ _ _ _ _ _ _ _ _ _ _ _ _ _ _ _ _ _ _ _ _ _ _ _ _ _ _ _ _ _ _ _ _ _ _ _ _ _ _ _ _ _ _ _ _ _ _ _ _ _ _ _ _ _ _ _ _ _ _ _ _ _ _ _ _ _ _ _ _ _ _ _ _ (fun c a a' w hd h=>hP c a a' w hd h) H G hk HBL HTB HXB HAB HBB HN hx1 hx2 HV HVN HU HUB hp hm ht (fun _ _ _ _ _ _ _ _ _ _ _ _ _ _ _ _ _ _ _ _ _ _ _ _ _ _ _ _ _ _ _ _ _ _ _ _ _ _ _ _ _ _ _ _ _ _ w' h=>HK _ _ _ _ _ _ _ _ _ _ _ _ _ _ _ _ _ _ _ _ _ _ _ _ _ _ _ _ _ _ _ _ _ _ _ _ _ _ _ _ _ _ _ _ _ _ _ _ _ _ _ _ _ _ _ _ _ _ _ _ _ _ _ _ _ _ _ _ _ _ _ _ _ _ _ _ _ _ _ _ _ _ _ _ _ _ _ _ _ _ _ _ _ _ _ _ _ _ _ _ _ _ _ _ _ _ _ _ _ _ _ _ _ _ _ _ _ _ _ _ _ _ _ _ _ _ _ _ _ _ _ _ _ _ _ _ _ _ _ _ _ _ _ _ _ _ _ _ _ _ _ _ _ _ _ _ _ _ _ _ _ _ _ _ _ _ _ _ _ _ _ _ _ _ w' h)
 exact do_armx (A:=A) (more:=more) (path:=path) (who:=who) (v1:=v1) (u:=u) (xb:=xb) (ab:=ab) _ _ _ _ _ _ _ _ _ _ _ _ _ _ _ _ _ _ _ _ _ _ _ _ _ _ _ _ _ _ _ _ _ _ _ _ _ _ _ _ _ _ _ _ _ _ _ _ _ _ _ _ _ _ _ _ _ _ _ _ _ _ _ _ _ _ _ _ _ _ _ _ _ _ _ _ _ _ _ _ _ _ _ _ _ _ _ _ _ _ _ _ _ _ _ _ _ _ _ _ _ _ _ _ _ _ _ _ _ _ _ _ _ _ _ _ _ _ _ _ _ _ _ _ _ _ _ _ _ _ _ _ _ _ _ _ _ _ _ _ _ _ _ _ _ _ _ _ _ _ _ _ _ _ _ _ _ _ _ _ _ _ _ _ _ _ _ _ _ _ _ _ _ _ _ _ _ _ _ _ _ _ _ _ _ _ _ _ _ _ _ _ _ _ _ _ _ _ _ _ _ _ _ _ _ _ (fun c a a' w hd h=>hP c a a' w hd h) H G HBL (by omega) (fun _ _ _ _ _ _ _ _ _ _ _ _ _ _ _ _ _ _ _ _ w' h=>HK _ _ _ _ _ _ _ _ _ _ _ _ _ _ _ _ _ _ _ _ _ _ _ _ _ _ _ _ _ _ _ _ _ _ _ _ _ _ _ _ _ _ _ _ _ _ _ _ _ _ _ _ _ _ _ _ _ _ _ _ _ _ _ _ _ _ _ _ _ _ _ _ _ _ _ _ _ _ _ _ _ _ _ _ _ _ _ _ _ _ _ _ _ _ _ _ _ _ _ _ _ _ _ _ _ _ _ _ _ _ _ _ _ _ _ _ _ _ _ _ _ _ _ _ _ _ _ _ _ _ _ _ _ _ _ _ _ _ _ _ _ _ _ _ _ _ _ _ _ _ _ _ _ _ _ _ _ _ _ _ _ _ _ _ _ _ _ _ _ _ _ _ _ _ w' h)
end Go.Proofs.YtnmejonfdfdegaaGreatDoor.Sr
