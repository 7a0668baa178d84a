import Derived.Test.YtnmejonfdfdegaaGreatDoorZPRtAttr
import Derived.Test.YtnmejonfdfdegaaGreatDoorZPSrTwin
set_option linter.unusedSimpArgs false
set_option linter.unusedVariables false
set_option maxHeartbeats 40000000
set_option maxRecDepth 100000
namespace Go.Proofs.YtnmejonfdfdegaaGreatDoor.Sr
open Go.RowKit Go.Maps Go.WideMaps Rf Go.Proofs.YtnmejonfdfdegaaGreatDoor.Nm St
open Lib (hid)
noncomputable def mvR (n:Nat):Code:=(Tryz.f31.body.bind (findR n)).getD .skip
noncomputable def mvB (n:Nat):Code:=(Tryz.f31.body.bind (findB n)).getD .skip
def longR (a b:PN) (R:List RN):Bool:=R.any fun m=>a.isPrefixOf m.nm && decide (16 < m.nm.length - a.length+b.length)
theorem longR_more {a b:PN} {R:List RN} {i:Nat} {y:RN} (h:R[i]? =some y):longR a b (R.take (i+1))=(longR a b (R.take i)||(a.isPrefixOf y.nm && decide (16 < y.nm.length - a.length+b.length))):=by
 rw[longR,List.take_add_one,h,List.any_append];simp[longR]
theorem longR_yes {a b:PN} {R:List RN} {y:RN} (h:y∈R) (h2:(a.isPrefixOf y.nm && decide (16 < y.nm.length - a.length+b.length))=true):longR a b R=true:=List.any_eq_true.2 ⟨y,h,h2⟩
theorem mv_b0 {Q:Exit→Act→World→Prop} (u1 u2 u3 u4 u5 u6 u8 jM jN jO jP jQ jR jS jT jU jV jW jX jY jZ j0 j1 j2 j3 j4 j5 j6 j7 j8 j9 ya yb yc yd ye yf yg yh yi yj yk yl ym yn yo yp yq yr ys yt yu yv yw yx yy yz yA yB yC yD yE yF yG yH yI yJ yK yL yM yN yO yP yQ yR yS yT yU yV yW yX yY yZ y0 y1 y2 y3 y4 y5 y6 y7 y8 y9 Ja Jb Jc Jd Je Jf Jg Jh Ji Jj Jk Jl Jm Jn Jo Jp Jq Jr Js Jt Ju Jv Jw Jx Jy Jz JA JB JC JD JE JF JG JH JI JJ JK JL JM JN JO JP JQ JR JS JT JU JV JW JX JY JZ J0 J1 J2 J3 J4 J5 J6 J7 J8 J9 Ya Yb Yc Yd Ye Yf Yg Yh Yi Yj Yk Yl Ym Yn Yo Yp Yq Yr Ys Yt Yu Yv Yw Yx Yy Yz YA YB YC YD YE YF YG YH YI YJ YK YL YM YN YO YP YQ YR YS YT YU YV YW YX YY YZ Y0 Y1 Y2 Y3 Y4 Y5 Y6 Y7 Y8 Y9 Xa Xb Xc Xd Xe Xf:Value) {B:Nat} {r ac bc vc:Nat} {va aa ba:Option Addr} {a b:PN} {R:List RN} {F:Tr} {w:World}
 (hP:∀ c (a a':Act) w,a.defers=a'.defers→Q (.panic c) a w→Q (.panic c) a' w) (hlen:R.length≤1000000) (hal:a.length≤1000) (hbl:b.length≤1000) (H:Hid (RTree B w r (.slice va R.length vc) R F)) (HA:Hid (St.StrsAt w (.slice aa a.length ac) a)) (HD16:Hid (∀ m∈R,m.nm.length≤1000))
 (HR:longR a b R=true→∀ (ja jb jc jd je jf jg jh ji jj jk jl jm jn jo jp jq jr js jt ju jv jw jx jy jz jA jB jC jD jE jF jG jH jI jJ jK jL:Value) (w':World),Below w.heap.size w w'→Q .ret ⟨#[.pointer (some ⟨r,0,none⟩),u1,u2,u3,u4,u5,.int .i64 10,.slice aa a.length ac,u8,.slice ba b.length bc,jM,jN,jO,ja,jP,jQ,jR,jS,jT,jU,jV,jW,jX,jY,jZ,j0,j1,j2,j3,j4,j5,j6,j7,j8,j9,ya,yb,yc,yd,ye,yf,yg,yh,yi,yj,yk,yl,ym,yn,yo,yp,yq,yr,ys,yt,yu,yv,yw,yx,yy,yz,yA,yB,yC,yD,yE,yF,yG,jb,jc,jd,je,jf,jg,jh,ji,jj,jk,jl,jm,jn,jo,jp,jq,jr,js,jt,ju,jv,jw,jx,jy,jz,jA,jB,jC,jD,jE,jF,jG,jH,jI,jJ,jK,jL,Ji,Jj,Jk,Jl,Jm,Jn,Jo,Jp,Jq,Jr,Js,Jt,Ju,Jv,Jw,Jx,Jy,Jz,JA,JB,JC,JD,JE,JF,JG,JH,JI,JJ,JK,JL,JM,JN,JO,JP,JQ,JR,JS,JT,JU,JV,JW,JX,JY,JZ,J0,J1,J2,J3,J4,J5,J6,J7,J8,J9,Ya,Yb,Yc,Yd,Ye,Yf,Yg,Yh,Yi,Yj,Yk,Yl,Ym,Yn,Yo,Yp,Yq,Yr,Ys,Yt,Yu,Yv,Yw,Yx,Yy,Yz,YA,YB,YC,YD,YE,YF,YG,YH,YI,YJ,YK,YL,YM,YN,YO,YP,YQ,YR,YS,YT,YU,YV,YW,YX,YY,YZ,Y0,Y1,Y2,Y3,Y4,Y5,Y6,Y7,Y8,Y9,Xa,Xb,Xc,Xd,Xe,Xf],[]⟩ w')
 (HK:∀ (t6 ja jb jc jd je jf jg jh ji jj jk jl jm jn jo jp jq jr js jt ju jv jw jx jy jz jA jB jC jD jE jF jG jH jI jJ jK jL:Value) (w':World),longR a b R=false∧Below w.heap.size w w'→Q .normal ⟨#[.pointer (some ⟨r,0,none⟩),u1,u2,u3,u4,u5,t6,.slice aa a.length ac,u8,.slice ba b.length bc,jM,jN,jO,ja,jP,jQ,jR,jS,jT,jU,jV,jW,jX,jY,jZ,j0,j1,j2,j3,j4,j5,j6,j7,j8,j9,ya,yb,yc,yd,ye,yf,yg,yh,yi,yj,yk,yl,ym,yn,yo,yp,yq,yr,ys,yt,yu,yv,yw,yx,yy,yz,yA,yB,yC,yD,yE,yF,yG,jb,jc,jd,je,jf,jg,jh,ji,jj,jk,jl,jm,jn,jo,jp,jq,jr,js,jt,ju,jv,jw,jx,jy,jz,jA,jB,jC,jD,jE,jF,jG,jH,jI,jJ,jK,jL,Ji,Jj,Jk,Jl,Jm,Jn,Jo,Jp,Jq,Jr,Js,Jt,Ju,Jv,Jw,Jx,Jy,Jz,JA,JB,JC,JD,JE,JF,JG,JH,JI,JJ,JK,JL,JM,JN,JO,JP,JQ,JR,JS,JT,JU,JV,JW,JX,JY,JZ,J0,J1,J2,J3,J4,J5,J6,J7,J8,J9,Ya,Yb,Yc,Yd,Ye,Yf,Yg,Yh,Yi,Yj,Yk,Yl,Ym,Yn,Yo,Yp,Yq,Yr,Ys,Yt,Yu,Yv,Yw,Yx,Yy,Yz,YA,YB,YC,YD,YE,YF,YG,YH,YI,YJ,YK,YL,YM,YN,YO,YP,YQ,YR,YS,YT,YU,YV,YW,YX,YY,YZ,Y0,Y1,Y2,Y3,Y4,Y5,Y6,Y7,Y8,Y9,Xa,Xb,Xc,Xd,Xe,Xf],[]⟩ w'):
 Code.wp Tryz.prog (mvB 0) Q ⟨#[.pointer (some ⟨r,0,none⟩),u1,u2,u3,u4,u5,u6,.slice aa a.length ac,u8,.slice ba b.length bc,jM,jN,jO,.int .i64 0,jP,jQ,jR,jS,jT,jU,jV,jW,jX,jY,jZ,j0,j1,j2,j3,j4,j5,j6,j7,j8,j9,ya,yb,yc,yd,ye,yf,yg,yh,yi,yj,yk,yl,ym,yn,yo,yp,yq,yr,ys,yt,yu,yv,yw,yx,yy,yz,yA,yB,yC,yD,yE,yF,yG,yH,yI,yJ,yK,yL,yM,yN,yO,yP,yQ,yR,yS,yT,yU,yV,yW,yX,yY,yZ,y0,y1,y2,y3,y4,y5,y6,y7,y8,y9,Ja,Jb,Jc,Jd,Je,Jf,Jg,Jh,Ji,Jj,Jk,Jl,Jm,Jn,Jo,Jp,Jq,Jr,Js,Jt,Ju,Jv,Jw,Jx,Jy,Jz,JA,JB,JC,JD,JE,JF,JG,JH,JI,JJ,JK,JL,JM,JN,JO,JP,JQ,JR,JS,JT,JU,JV,JW,JX,JY,JZ,J0,J1,J2,J3,J4,J5,J6,J7,J8,J9,Ya,Yb,Yc,Yd,Ye,Yf,Yg,Yh,Yi,Yj,Yk,Yl,Ym,Yn,Yo,Yp,Yq,Yr,Ys,Yt,Yu,Yv,Yw,Yx,Yy,Yz,YA,YB,YC,YD,YE,YF,YG,YH,YI,YJ,YK,YL,YM,YN,YO,YP,YQ,YR,YS,YT,YU,YV,YW,YX,YY,YZ,Y0,Y1,Y2,Y3,Y4,Y5,Y6,Y7,Y8,Y9,Xa,Xb,Xc,Xd,Xe,Xf],[]⟩ w:=by
 have HKH:=hid HK
 clear HK
 conv=>arg 2;whnf
 have HRH:=hid HR
 clear HR
 go_wp2
 go_loopw [13] (fun v13 wr=>∃ i:Nat,i≤R.length∧v13= .int .i64 (i:Int)∧Hid (longR a b (R.take i)=false)∧Hid (Below w.heap.size w wr)) (fun v13 _=>R.length - (RowKit.intOf v13).toNat)
 case atStart=>exact ⟨0,Nat.zero_le _,rfl,hid rfl,hid (Below.refl _ _)⟩
 case round=>
  obtain⟨i,hi,rfl,HZ,HB⟩:=hrel
  have HX:=hid (H.out.below HB.out)
  have c0:wr.cell? ⟨r,0,none⟩=some (.slice va R.length vc):=cell_of_heap HX.out.book
  by_cases hil:(i:Int) < (R.length:Int)
  · have hi1:i < R.length:=by omega
    obtain⟨n,hn⟩:∃ n,R[i]? =some n:=⟨_,List.getElem?_eq_getElem hi1⟩
    obtain⟨gv,cap,hv,hgv⟩:=HX.out.form (by omega)
    injection hv with e1 e2 e3
    subst e1 e3
    have HST:=hid (HX.out.node n (List.mem_of_getElem? hn)).1.strs
    have HD:=hid (HD16.out n (List.mem_of_getElem? hn))
    obtain⟨na,nc,hnv⟩:=rowS_slice (HX.out.node n (List.mem_of_getElem? hn)).1.row
    have cp:wr.cell? ⟨gv,i*11,none⟩=some (.slice na n.nm.length nc):=by rw[←hnv];exact HX.out.ent hn 0 _ rfl
    have HNV:=hid hnv
    have HCP:Hid (∀ w',Below wr.heap.size wr w'→w'.cell? ⟨r,0,none⟩=some (.slice (some ⟨gv,0,none⟩) R.length vc)∧w'.cell? ⟨gv,i*11,none⟩=some (.slice na n.nm.length nc)):=hid (fun w' hb=>by
     have hX:=HX.out.below hb
     exact⟨cell_of_heap hX.book,by rw[←HNV.out];exact hX.ent hn 0 _ rfl⟩)
    have HMO:=hid (longR_more (a:=a) (b:=b) hn)
    have HMEM:=hid (List.mem_of_getElem? hn)
    have CB:=begins_any wr _ n.nv a n.nm (HA.out.below HB.out) HST.out
    rw[HNV.out] at CB
    have hd16:=HD.out
    clear hn hnv e2
    cases hpre:a.isPrefixOf n.nm with
    |false=>
     have HM2:Hid (longR a b (R.take (i+1))=false):=hid (by rw[HMO.out,HZ.out,hpre];rfl)
     rw[hpre] at CB
     have CB:=hid CB
     clear hpre
     go_wp2_with fail
     refine CB.out.mono ?_
     rintro ez w5 ⟨rfl,hb5⟩
     have HB5:=hid hb5
     clear hb5 CB
     go_wp2
     go_roundw
     case rel=>exact ⟨i+1,by omega,by go_num,HM2,hid (HB.out.trans (HB5.out.mono HB.out.size))⟩
     case measure=>simp [RowKit.intOf];omega
    |true=>
     have hle:=(pre_at.1 hpre).1
     rw[hpre] at CB
     have CB:=hid CB
     have HPRE:=hid hpre
     clear hpre
     by_cases hlong:16 < n.nm.length - a.length+b.length
     · have HLY:Hid (longR a b R=true):=hid (longR_yes HMEM.out (by rw[HPRE.out,decide_eq_true hlong];rfl))
       have hl2:(16:Int) < (n.nm.length:Int) - (a.length:Int)+(b.length:Int):=by omega
       clear hlong
       go_wp2_with fail
       refine CB.out.mono ?_
       rintro ez w5 ⟨rfl,hb5⟩
       have HB5:=hid hb5
       obtain⟨c05,cp5⟩:=HCP.out w5 hb5
       clear hb5 CB
       go_wp2
       exact HRH.out HLY.out _ _ _ _ _ _ _ _ _ _ _ _ _ _ _ _ _ _ _ _ _ _ _ _ _ _ _ _ _ _ _ _ _ _ _ _ _ _ _ (HB.out.trans (HB5.out.mono HB.out.size))
     · have HM2:Hid (longR a b (R.take (i+1))=false):=hid (by rw[HMO.out,HZ.out,decide_eq_false hlong];simp)
       have hl2:¬ (16:Int) < (n.nm.length:Int) - (a.length:Int)+(b.length:Int):=by omega
       clear hlong
       go_wp2_with fail
       refine CB.out.mono ?_
       rintro ez w5 ⟨rfl,hb5⟩
       have HB5:=hid hb5
       obtain⟨c05,cp5⟩:=HCP.out w5 hb5
       clear hb5 CB
       go_wp2
       go_roundw
       case rel=>exact ⟨i+1,by omega,by go_num,HM2,hid (HB.out.trans (HB5.out.mono HB.out.size))⟩
       case measure=>simp [RowKit.intOf];omega
  · obtain rfl:i=R.length:=by omega
    have HLN:Hid (longR a b R=false):=hid (by have h:=HZ.out;rw[List.take_length] at h;exact h)
    go_wp2
    exact HKH.out _ _ _ _ _ _ _ _ _ _ _ _ _ _ _ _ _ _ _ _ _ _ _ _ _ _ _ _ _ _ _ _ _ _ _ _ _ _ _ _ ⟨HLN.out,HB.out⟩
theorem path_hold {w:World} {B:Nat} {v:Value} {l:PN} (h:PathAt B w v l):HoldN w v l.length (l.map sv):=by
 obtain⟨h1,⟨rfl,h2⟩|⟨g,cap,cur,rfl,a1,a2,a3,a4,a5,a6⟩⟩:=h.row
 · have h0:l=[]:=List.eq_nil_of_length_eq_zero h2
   subst h0;exact .inr ⟨0,rfl,rfl,rfl⟩
 · refine .inl ⟨⟨g,0,none⟩,cap,rfl,fun j u hj=>?_⟩
   rw[Addr.add_lit,Nat.zero_add,cell_of_heap a2]
   have hlt:=(List.getElem?_eq_some_iff.1 hj).1
   rw[List.length_map] at hlt
   rw[←a6,List.getElem?_take_of_lt (by omega),Array.getElem?_toList] at hj
   exact hj
theorem sv_ones (l:PN):∀ u∈l.map sv,u.oneCell'=true:=by
 intro u hu
 obtain⟨x,_,rfl⟩:=List.mem_map.1 hu
 rfl
theorem path_back {w:World} {B gn c:Nat} {l:PN} (h:PathAt B w (.slice (some ⟨gn,0,none⟩) l.length c) l) {i:Nat} (hi:i≤l.length):HoldN w (sliced (some ⟨gn,0,none⟩) i l.length c 1) (l.length - i) ((l.drop i).map sv):=by
 obtain⟨h1,⟨hc,_⟩|⟨g',cap',cur,hv,a1,a2,a3,a4,a5,a6⟩⟩:=h.row
 · cases hc
 · injection hv with e1 e2 e3
   injection e1 with e1
   injection e1 with e1
   subst e1 e3
   unfold sliced
   by_cases hci:c=i
   · rw[if_pos hci]
     have:l.drop i=[]:=List.drop_eq_nil_of_le (by omega)
     rw[this]
     exact .inl ⟨_,_,rfl,fun j u hj=>by cases hj⟩
   · rw[if_neg hci]
     refine .inl ⟨⟨gn,i,none⟩,_,by rw[Option.map_some,Addr.add_lit,Nat.zero_add,Nat.mul_one],fun j u hj=>?_⟩
     rw[Addr.add_lit,cell_of_heap a2]
     have hc:(l.map sv)[i+j]? =some u:=by rw[←List.getElem?_drop,←List.map_drop];exact hj
     have hlt:=(List.getElem?_eq_some_iff.1 hc).1
     rw[List.length_map] at hlt
     rw[←a6,List.getElem?_take_of_lt (by omega),Array.getElem?_toList] at hc
     exact hc
theorem exec_back {o:Oper} {a:Act} {w:World} (x l:Operand) (g n c k:Nat) (ho:o.op= .slice 57 x (some l) none none) (hx:a.eval x= .slice (some ⟨g,0,none⟩) n c) (hh:a.eval l= .int .i64 (k:Int)) (hk:k≤n):
 (execOp a.eval o).run Tryz.prog w= .ok (.value (sliced (some ⟨g,0,none⟩) k n c 1)) w:=by
 have hr:(Instr.slice 57 (.slice (some ⟨g,0,none⟩) n c) (some (.int .i64 (k:Int))) none none).run Tryz.prog w= .ok (sliced (some ⟨g,0,none⟩) k n c 1) w:=by
  rw[run_slice_l w _ _ _ _ undSt .i64 _ (by omega) (by omega),sizeSt]
  rfl
 unfold execOp
 simp only[ho,hx,hh,Option.map_none,Option.map_some,Sem.run_bind,run_sliceAt_slice w _ _ _ _ _ undSt,hr,Result.andThen_ok]
 rfl
theorem turn_grown {X:List Nat} {a b c:World} (h:Turn X a b) {row:Option Nat} (hg:b.grownBy c row) (hr:∀ k∈row.toList,k∈X∨a.heap.size≤k):Turn X a c:=
 ⟨hg.os.trans h.os,hg.tape.trans h.tape,hg.output.trans h.output,Nat.le_trans h.size hg.size,fun k hk hx=>(hg.block k (Nat.lt_of_lt_of_le hk h.size) (fun e=>by
   rcases hr k (by rw[←e];simp) with h1|h1
   · exact hx h1
   · omega)).trans (h.block k hk hx)⟩
def mvN (a b:PN) (y:RN) (nv:Value):RN:={y with nm:=b++y.nm.drop a.length,nv:=nv}
theorem mv_r34 {Q:Exit→Act→World→Prop} (u0 u1 u2 u3 u4 u5 u6 u8 jk jl jm jn jo jp jq jr js jt ju jv jw jx jy jz jA jB jC jD jE jF jG jH jI jJ jK jL jM jN jO jP jQ jR jS jT jU jV jW jX jY jZ j0 j1 j2 j3 j4 j5 j6 j7 j8 j9 ya yb yd ye yf yg yh yi yj yk yl ym yn yo yp yq yr ys yt yu yv yw yx yy yz yA yB yC yD yE yF yG yH yI yJ yK yL yM yN yO yP yQ yR yS yT yU yV yW yX yY yZ y0 y1 y2 y3 y4 y5 y6 y7 y8 y9 Ja Jb Jc Jd Je Jf Jg Jh Ji Jj Jk Jl Jm Jn Jo Jp Jq Jr Js Jt Ju Jv Jw Jx Jy Jz JA JB JC JD JE JF JG JH JI JJ JK JL JM JN JO JP JQ JR JS JT JU JV JW JX JY JZ J0 J1 J2 J3 J4 J5 J6 J7 J8 J9 Ya Yb Yc Yd Ye Yf Yg Yh Yi Yj Yk Yl Ym Yn Yo Yp Yq Yr Ys Yt Yu Yv Yw Yx Yy Yz YA YB YC YD YE YF YG YH YI YJ YK YL YM YN YO:Value) {B2 B3:Nat} {ac bc tv gn yc:Nat} {aa ba:Option Addr} {a b:PN} {y:RN} {W:World}
 (hP:∀ c (a a':Act) w,a.defers=a'.defers→Q (.panic c) a w→Q (.panic c) a' w) (hal:a.length≤1000) (hbl:b.length≤1000) (hyl:y.nm.length≤1000) (hle:a.length≤y.nm.length) (HQ:Hid (W.heap[tv]? =some (.cells y.cells.toArray RnT))) (hnv:y.nv= .slice (some ⟨gn,0,none⟩) y.nm.length yc) (HPB:Hid (PathAt B2 W (.slice ba b.length bc) b)) (HPY:Hid (PathAt B3 W (.slice (some ⟨gn,0,none⟩) y.nm.length yc) y.nm))
 (HK:∀ (ja jb jc jd je jf jg jh ji jj:Value) (w':World),(∃ nv,w'.heap[tv]? =some (.cells (mvN a b y nv).cells.toArray RnT)∧PathAt W.heap.size w' nv (b++y.nm.drop a.length)∧Turn [tv] W w')→Q .normal ⟨#[u0,u1,u2,u3,u4,u5,u6,.slice aa a.length ac,u8,.slice ba b.length bc,jk,jl,jm,jn,jo,jp,jq,jr,js,jt,.pointer (some ⟨tv,0,none⟩),ju,jv,jw,jx,jy,jz,jA,jB,jC,jD,jE,jF,jG,jH,jI,jJ,jK,jL,jM,jN,jO,jP,jQ,jR,jS,jT,jU,jV,jW,jX,jY,jZ,j0,j1,j2,j3,j4,j5,j6,j7,j8,j9,ya,yb,yd,ye,yf,yg,yh,yi,yj,yk,yl,ym,yn,yo,yp,yq,yr,ys,yt,yu,yv,yw,yx,yy,yz,yA,yB,yC,yD,yE,yF,yG,yH,yI,yJ,yK,yL,yM,yN,yO,yP,yQ,yR,yS,yT,yU,yV,yW,yX,yY,yZ,y0,y1,y2,y3,y4,y5,y6,y7,y8,y9,Ja,Jb,Jc,Jd,Je,Jf,Jg,Jh,Ji,Jj,Jk,Jl,Jm,Jn,Jo,Jp,Jq,Jr,Js,Jt,Ju,Jv,Jw,Jx,Jy,Jz,JA,JB,JC,JD,JE,JF,JG,JH,JI,JJ,JK,JL,JM,JN,JO,JP,JQ,JR,JS,JT,JU,JV,JW,JX,JY,JZ,J0,J1,J2,J3,J4,J5,J6,J7,J8,J9,Ya,Yb,Yc,Yd,Ye,Yf,Yg,ja,jb,jc,jd,je,jf,jg,jh,ji,jj,Yr,Ys,Yt,Yu,Yv,Yw,Yx,Yy,Yz,YA,YB,YC,YD,YE,YF,YG,YH,YI,YJ,YK,YL,YM,YN,YO],[]⟩ w'):
 Code.wp Tryz.prog (mvR 34) Q ⟨#[u0,u1,u2,u3,u4,u5,u6,.slice aa a.length ac,u8,.slice ba b.length bc,jk,jl,jm,jn,jo,jp,jq,jr,js,jt,.pointer (some ⟨tv,0,none⟩),ju,jv,jw,jx,jy,jz,jA,jB,jC,jD,jE,jF,jG,jH,jI,jJ,jK,jL,jM,jN,jO,jP,jQ,jR,jS,jT,jU,jV,jW,jX,jY,jZ,j0,j1,j2,j3,j4,j5,j6,j7,j8,j9,ya,yb,yd,ye,yf,yg,yh,yi,yj,yk,yl,ym,yn,yo,yp,yq,yr,ys,yt,yu,yv,yw,yx,yy,yz,yA,yB,yC,yD,yE,yF,yG,yH,yI,yJ,yK,yL,yM,yN,yO,yP,yQ,yR,yS,yT,yU,yV,yW,yX,yY,yZ,y0,y1,y2,y3,y4,y5,y6,y7,y8,y9,Ja,Jb,Jc,Jd,Je,Jf,Jg,Jh,Ji,Jj,Jk,Jl,Jm,Jn,Jo,Jp,Jq,Jr,Js,Jt,Ju,Jv,Jw,Jx,Jy,Jz,JA,JB,JC,JD,JE,JF,JG,JH,JI,JJ,JK,JL,JM,JN,JO,JP,JQ,JR,JS,JT,JU,JV,JW,JX,JY,JZ,J0,J1,J2,J3,J4,J5,J6,J7,J8,J9,Ya,Yb,Yc,Yd,Ye,Yf,Yg,Yh,Yi,Yj,Yk,Yl,Ym,Yn,Yo,Yp,Yq,Yr,Ys,Yt,Yu,Yv,Yw,Yx,Yy,Yz,YA,YB,YC,YD,YE,YF,YG,YH,YI,YJ,YK,YL,YM,YN,YO],[]⟩ W:=by
 have HKH:=hid HK
 clear HK
 conv=>arg 2;whnf
 have K0:Hid (∀ w':World,w'.heap[tv]? =some (.cells y.cells.toArray RnT)→w'.cell? ⟨tv,0,none⟩=some (.slice (some ⟨gn,0,none⟩) y.nm.length yc)):=hid (fun w' h=>(cell_of_heap h).trans (by rw[←hnv];rfl))
 clear hnv
 obtain⟨i0,hi0,hz0,hz1,hz2⟩:=info_parts infoStr
 have HPBL:Hid (∀ (ad:Addr) (c:Nat),Value.slice ba b.length bc= .slice (some ad) b.length c→ad.block < W.drew.heap.size):=hid (fun ad c e=>rowS_lt HPB.out.row ad.block (by
  obtain⟨_,⟨hv,h0⟩|⟨g,cap,cur,hv,_⟩⟩:=HPB.out.row
  · rw[hv] at e;injection e with e1;cases e1
  · rw[hv] at e ⊢;injection e with e1;injection e1 with e1;rw[←e1];simp[ob,Value.ownBlock]))
 have HPYL:Hid (∀ (ad:Addr) (c:Nat),sliced (some ⟨gn,0,none⟩) a.length y.nm.length yc 1= .slice (some ad) (y.nm.length - a.length) c→ad.block < W.drew.heap.size):=hid (fun ad c e=>by
  have hg:=rowS_lt HPY.out.row gn (by simp[ob,Value.ownBlock])
  unfold sliced at e
  injection e with e1 e2 e3
  split at e1
  · injection e1 with e1;rw[←e1];exact hg
  · rw[Option.map_some] at e1
    injection e1 with e1
    rw[←e1,addr_block];exact hg)
 go_upto_region 34 with(fail)
 refine region_held (S:=(fun w':World=>w'.cell? ⟨tv,0,none⟩=some (.slice (some ⟨gn,0,none⟩) y.nm.length yc))) (k:=10) (by kernel_rfl) (K0.out W.drew HQ.out) (fun zh=>?_)
 refine held_take (i:=1) (v:=?_) rfl (by kernel_rfl) (by kernel_rfl) (by kernel_rfl) (by kernel_rfl) (pz hP) (Or.inl ⟨by rfl,?r340⟩) zh ?_
 case r340=>intro wS hS;have k0:=hS;go_simp;try rfl
 try simp only[Act.put,zA,zB,zC,zD,zE,zF]
 refine held_take (i:=3) (v:=?_) rfl (by kernel_rfl) (by kernel_rfl) (by kernel_rfl) (by kernel_rfl) (pz hP) (Or.inl ⟨by rfl,?r341⟩) zh ?_
 case r341=>intro wS hS;have k0:=hS;go_simp;try rfl
 try simp only[Act.put,zA,zB,zC,zD,zE,zF]
 refine held_take (i:=4) (v:=?_) rfl (by kernel_rfl) (by kernel_rfl) (by kernel_rfl) (by kernel_rfl) (pz hP) (Or.inl ⟨by rfl,?r342⟩) zh ?_
 case r342=>intro wS hS;have k0:=hS;go_simp;try rfl
 try simp only[Act.put,zA,zB,zC,zD,zE,zF]
 refine held_take (i:=5) (v:=?_) rfl (by kernel_rfl) (by kernel_rfl) (by kernel_rfl) (by kernel_rfl) (pz hP) (Or.inl ⟨by rfl,?r343⟩) zh ?_
 case r343=>intro wS hS;have k0:=hS;go_simp;try rfl
 try simp only[Act.put,zA,zB,zC,zD,zE,zF]
 refine held_take (i:=6) (v:=?_) rfl (by kernel_rfl) (by kernel_rfl) (by kernel_rfl) (by kernel_rfl) (pz hP) (Or.inl ⟨by rfl,?r344⟩) zh ?_
 case r344=>intro wS hS;have k0:=hS;go_simp;try rfl
 try simp only[Act.put,zA,zB,zC,zD,zE,zF]
 refine held_take (i:=7) (v:=(sliced (some ⟨gn,0,none⟩) a.length y.nm.length yc 1)) rfl (by kernel_rfl) (by kernel_rfl) (by kernel_rfl) (by kernel_rfl) (pz hP) (Or.inl ⟨by rfl,?r345⟩) zh ?_
 case r345=>intro wS hS;have k0:=hS;exact exec_back (.tmp 197) (.tmp 199) gn y.nm.length yc a.length rfl rfl rfl hle
 try simp only[Act.put,zA,zB,zC,zD,zE,zF]
 refine held_ready (rs:=[0]) (by kernel_rfl) (by simp) ?_
 refine AllHeld.cons rfl (fun K hK=>?_) AllHeld.nil
 refine wp_noneN 1 57 9 i0 _ rfl Tryz.underlying57 hi0 hz0 hz1 ?_
 intro x0 w2 ho2 hg2 hx2
 have HO2:=hid ho2;have HG2:=hid hg2;have HX2:=hid hx2
 clear ho2 hg2 hx2
 have HQ2:=hid ((HG2.out.block _ (lt_of_heap HQ.out) (fun h=>nomatch h)).trans HQ.out)
 refine hK.out _ _ (fun _=>(K0.out _ HQ2.out)) (fun zh=>?_)
 clear hK K
 have zh:=zh (by decide)
 try simp only[Act.put,zA,zB,zC,zD,zE,zF]
 refine held_ready (rs:=[2]) (by kernel_rfl) (by simp) ?_
 refine AllHeld.cons rfl (fun K hK=>?_) AllHeld.nil
 refine wp_append_holdN 1 (by decide) (.tmp 193) (.tmp 194) 57 rfl W.drew.heap.size 9 i0 _ 16 Tryz.underlying57 hi0 hz0 hz1 hz2 (by kernel_rfl) x0 0 [] rfl HO2.out (.slice ba b.length bc) b.length (b.map sv) rfl ((path_hold HPB.out).kept (fun ad c e _=>HG2.out.block _ (HPBL.out ad c e) (fun h=>nomatch h))) (by rw[List.length_map,Nat.mul_one]) (sv_ones b) (by unfold maxLen;omega) (by omega) HG2.out.size ?_
 intro x3 w3 ho3 hg3 hx3
 have HO3:Hid (w3.ownsRow W.drew.heap.size 9 1 x3 b.length (b.map sv)):=hid (by simpa using ho3)
 have HG3:=hid hg3;have HX3:=hid hx3
 clear ho3 hg3 hx3
 have HQ3:=hid ((HG3.out.block _ (lt_of_heap HQ2.out) (fun h=>by have h1:=HX2.out _ h.symm;have h2:=lt_of_heap HQ.out;rw[h1] at h2;exact absurd h2 (Nat.lt_irrefl _))).trans HQ2.out)
 have HOB3:Hid (∀ q,x3.ownBlock=some q→W.drew.heap.size≤q):=hid (fun q hq=>rowS_ge HO3.out q (by simp[ob,hq]))
 refine hK.out _ _ (fun _=>(K0.out _ HQ3.out)) (fun zh=>?_)
 clear hK K
 have zh:=zh (by decide)
 try simp only[Act.put,zA,zB,zC,zD,zE,zF]
 refine held_ready (rs:=[8]) (by kernel_rfl) (by simp) ?_
 refine AllHeld.cons rfl (fun K hK=>?_) AllHeld.nil
 refine wp_append_holdN 1 (by decide) (.tmp 195) (.tmp 200) 57 rfl W.drew.heap.size 9 i0 _ 16 Tryz.underlying57 hi0 hz0 hz1 hz2 (by kernel_rfl) x3 b.length (b.map sv) rfl HO3.out _ (y.nm.length - a.length) ((y.nm.drop a.length).map sv) rfl (((path_back HPY.out hle).kept (fun ad c e _=>HG2.out.block _ (HPYL.out ad c e) (fun h=>nomatch h))).kept (fun ad c e _=>HG3.out.block _ (Nat.lt_of_lt_of_le (HPYL.out ad c e) HG2.out.size) (fun h=>by have h1:=HX2.out _ h.symm;have h2:=HPYL.out ad c e;rw[h1] at h2;exact absurd h2 (Nat.lt_irrefl _)))) (by rw[List.length_map,List.length_drop,Nat.mul_one]) (sv_ones _) (by unfold maxLen;omega) (by omega) (Nat.le_trans HG2.out.size HG3.out.size) ?_
 intro x4 w4 ho4 hg4 hx4
 have HO4:=hid ho4;have HG4:=hid hg4
 clear ho4 hg4 hx4
 obtain⟨xa,xc,rfl⟩:=rowS_slice HO4.out
 have HQ4:=hid ((HG4.out.block _ (lt_of_heap HQ3.out) (fun h=>by have h1:=HOB3.out _ h.symm;have h2:=lt_of_heap HQ.out;exact absurd h2 (Nat.not_lt.2 h1))).trans HQ3.out)
 refine hK.out _ _ (fun _=>(K0.out _ HQ4.out)) (fun zh=>?_)
 clear hK K
 have zh:=zh (by decide)
 try simp only[Act.put,zA,zB,zC,zD,zE,zF]
 refine held_take (i:=9) (v:=?_) rfl (by kernel_rfl) (by kernel_rfl) (by kernel_rfl) (by kernel_rfl) (pz hP) (Or.inl ⟨by rfl,?r346⟩) zh ?_
 case r346=>intro wS hS;have k0:=hS;go_simp;try rfl
 try simp only[Act.put,zA,zB,zC,zD,zE,zF]
 refine held_ready (rs:=[10]) (by kernel_rfl) (by simp) ?_
 refine AllHeld.cons rfl (fun K hK=>?_) AllHeld.nil
 have f4:w4.frozen? ⟨tv,0,none⟩=false:=frozen_of_heap HQ4.out
 have c4:w4.cell? ⟨tv,0,none⟩=some (.slice (some ⟨gn,0,none⟩) y.nm.length yc):=K0.out _ HQ4.out
 go_simp
 refine hK.out _ _ (fun h=>absurd rfl h) (fun _=>?_)
 clear hK K
 try simp only[Act.put,zA,zB,zC,zD,zE,zF]
 refine held_done (by kernel_rfl) ?_ _
 clear zh
 try simp only[Act.put,zA,zB,zC,zD,zE,zF]
 have HQ5:Hid ((w4.setCell ⟨tv,0,none⟩ (.slice xa (b.length+(y.nm.length - a.length)) xc)).heap[tv]? =some (.cells (mvN a b y (.slice xa (b.length+(y.nm.length - a.length)) xc)).cells.toArray RnT)):=hid (by rw[setCell_heap _ _ _ _ _ _ HQ4.out];rfl)
 have hlen:(b++y.nm.drop a.length).length=b.length+(y.nm.length - a.length):=by rw[List.length_append,List.length_drop]
 have HP5:Hid (PathAt W.heap.size (w4.setCell ⟨tv,0,none⟩ (.slice xa (b.length+(y.nm.length - a.length)) xc)) (.slice xa (b.length+(y.nm.length - a.length)) xc) (b++y.nm.drop a.length)):=hid (by
  have ho:=HO4.out
  rw[←List.map_append] at ho
  have h1:w4.ownsRow W.heap.size 9 1 (.slice xa (b.length+(y.nm.length - a.length)) xc) (b++y.nm.drop a.length).length ((b++y.nm.drop a.length).map sv):=by rw[hlen];exact ho
  refine⟨rowS_kept h1 (fun q hq _=>Below.heap_setCell _ _ _ _ (fun e=>?_)),fun x hx=>?_⟩
  · have h2:=rowS_ge h1 q hq
    have h3:=lt_of_heap HQ.out
    have h4:q=tv:=e
    subst h4
    exact absurd h3 (Nat.not_lt.2 h2)
  · rcases List.mem_append.1 hx with hx|hx
    · exact HPB.out.len x hx
    · exact HPY.out.len x (List.mem_of_mem_drop hx))
 have HT5:Hid (Turn [tv] W (w4.setCell ⟨tv,0,none⟩ (.slice xa (b.length+(y.nm.length - a.length)) xc))):=hid (by
  have e1:Turn [tv] W W.drew:=(Turn.refl [tv] W).drew
  have e2:=turn_grown e1 HG2.out (fun k hk=>nomatch hk)
  have e3:=turn_grown e2 HG3.out (fun k hk=> .inr (by have h1:=HX2.out k (by simpa using hk);rw[h1];exact Nat.le_refl _))
  have e4:=turn_grown e3 HG4.out (fun k hk=> .inr (HOB3.out k (by simpa using hk)))
  exact e4.setCell (p:=⟨tv,0,none⟩) (.inl (by simp)) _)
 go_wp2
 all_goals exact HKH.out _ _ _ _ _ _ _ _ _ _ _ ⟨_,HQ5.out,HP5.out,HT5.out⟩
end Go.Proofs.YtnmejonfdfdegaaGreatDoor.Sr
