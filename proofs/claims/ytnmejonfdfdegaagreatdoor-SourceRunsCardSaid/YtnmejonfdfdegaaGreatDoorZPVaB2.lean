import Derived.Test.YtnmejonfdfdegaaGreatDoorZPSrAsked
set_option linter.unusedSimpArgs false
set_option linter.unusedVariables false
set_option maxHeartbeats 40000000
set_option maxRecDepth 100000
namespace Go.Proofs.YtnmejonfdfdegaaGreatDoor.Sr
open Go.RowKit Go.Maps Go.WideMaps Rf Go.Proofs.YtnmejonfdfdegaaGreatDoor.Nm St
theorem putAll_size3:∀ (vs:List Value) (o:Nat) (cur:Array Value),(putAll cur o vs).size=cur.size
 |[],_,_=>rfl
 |v::r,o,cur=>by
  show(putAll (cur.setIfInBounds o v) (o+1) r).size=_
  rw[putAll_size3 r];simp
theorem va_b2 {Q:Exit→Act→World→Prop} (u0 u1 u2 u3 u4 u5 u6 u7 u8 jl jm jn jo jp jq jr js jt ju jv jw jx jy jz jA jB jC jD jE jF jG jH jI jJ jK jL jM jN jO jP jQ jR jS jT jU jV jW jX jY jZ j0 j1 j2 j3 j4 j5 j6 j7 j8 j9 ya yb yc yd ye yf yg yh yi yj yk yl ym yn yo yp yq yr yt yu yv yw yx yy yz yA yB yC yD yE yF yG yH yI yJ yK yL yM yN yO yP yQ yR yS yT yU yV yW yX yY yZ y0 y1 y2 y3 y4 y5 y6 y7 y8 y9 Ja Jb Jc Jd Je Jf Jg Jh Ji Jj Jk Jl Jm Jn Jo Jp Jq Jr Js Jt Ju Jv Jw Jx Jy Jz JA JB JC JD JE JF JG JH JI JJ JK JL JM JN JO JP JQ JR JS JT JU JV JW JX JY JZ J0 J1 J2 J3 J4 J5 J6 J7 J8 J9 Ya Yb Yc Yd:Value) {xa:Option Addr} {m xc C:Nat} {wr:World}
 (hP:∀ c (a a':Act) w,a.defers=a'.defers→Q (.panic c) a w→Q (.panic c) a' w) (hm:m≤1000000) (HO:Hid (∃ ys,wr.ownsRow C 123 2 (.slice xa m xc) m ys))
 (HK:∀ (ja jb jc jd je jf jg jh ji jj jk:Value) (w':World),(∃ ys,w'.ownsRow C 123 2 (.slice xa m xc) m ys)∧Turn (ob (.slice xa m xc)) wr w'→Q .normal ⟨#[u0,u1,u2,u3,u4,u5,u6,u7,u8,.slice xa m xc,ja,jl,jm,jn,jo,jp,jq,jr,js,jt,ju,jv,jw,jx,jy,jz,jA,jB,jC,jD,jE,jF,jG,jH,jI,jJ,jK,jL,jM,jN,jO,jP,jQ,jR,jS,jT,jU,jV,jW,jX,jY,jZ,j0,j1,j2,j3,j4,j5,j6,j7,j8,j9,ya,yb,yc,yd,ye,yf,yg,yh,yi,yj,yk,yl,ym,yn,yo,yp,yq,yr,yt,yu,yv,yw,yx,yy,yz,yA,yB,yC,yD,yE,yF,yG,yH,yI,yJ,yK,yL,yM,yN,yO,yP,yQ,yR,yS,yT,yU,yV,yW,yX,yY,yZ,y0,y1,y2,y3,y4,y5,y6,y7,y8,jb,jc,jd,je,jf,jg,jh,ji,jj,jk,Jj,Jk,Jl,Jm,Jn,Jo,Jp,Jq,Jr,Js,Jt,Ju,Jv,Jw,Jx,Jy,Jz,JA,JB,JC,JD,JE,JF,JG,JH,JI,JJ,JK,JL,JM,JN,JO,JP,JQ,JR,JS,JT,JU,JV,JW,JX,JY,JZ,J0,J1,J2,J3,J4,J5,J6,J7,J8,J9,Ya,Yb,Yc,Yd],[]⟩ w'):
 Code.wp Tryz.prog (vaB 2) Q ⟨#[u0,u1,u2,u3,u4,u5,u6,u7,u8,.slice xa m xc,.int .i64 0,jl,jm,jn,jo,jp,jq,jr,js,jt,ju,jv,jw,jx,jy,jz,jA,jB,jC,jD,jE,jF,jG,jH,jI,jJ,jK,jL,jM,jN,jO,jP,jQ,jR,jS,jT,jU,jV,jW,jX,jY,jZ,j0,j1,j2,j3,j4,j5,j6,j7,j8,j9,ya,yb,yc,yd,ye,yf,yg,yh,yi,yj,yk,yl,ym,yn,yo,yp,yq,yr,yt,yu,yv,yw,yx,yy,yz,yA,yB,yC,yD,yE,yF,yG,yH,yI,yJ,yK,yL,yM,yN,yO,yP,yQ,yR,yS,yT,yU,yV,yW,yX,yY,yZ,y0,y1,y2,y3,y4,y5,y6,y7,y8,y9,Ja,Jb,Jc,Jd,Je,Jf,Jg,Jh,Ji,Jj,Jk,Jl,Jm,Jn,Jo,Jp,Jq,Jr,Js,Jt,Ju,Jv,Jw,Jx,Jy,Jz,JA,JB,JC,JD,JE,JF,JG,JH,JI,JJ,JK,JL,JM,JN,JO,JP,JQ,JR,JS,JT,JU,JV,JW,JX,JY,JZ,J0,J1,J2,J3,J4,J5,J6,J7,J8,J9,Ya,Yb,Yc,Yd],[]⟩ wr:=by
 have HKH:=Lib.hid HK
 clear HK
 conv=>arg 2;whnf
 go_wp2
 go_loopw [10] (fun v10 ws=>∃ i:Nat,i≤m∧v10= .int .i64 (i:Int)∧Hid (Turn (ob (.slice xa m xc)) wr ws)∧Hid (∃ ys,ws.ownsRow C 123 2 (.slice xa m xc) m ys)) (fun v10 _=>m - (RowKit.intOf v10).toNat)
 case atStart=>exact ⟨0,Nat.zero_le _,rfl,Lib.hid (Turn.refl _ _),HO⟩
 case round=>
  rename World=>ws
  clear HO
  obtain⟨i,hi,rfl,HTR,HCR⟩:=hrel
  by_cases hil:(i:Int) < (m:Int)
  · have hi2:i < m:=by omega
    obtain⟨ys,hys⟩:=HCR.out
    obtain⟨g,cur,rfl,hc1,hc2,hset⟩:=owns_open hys (by omega)
    have HCS:Hid (∃ ys,(ws.setCells g (i*2) [.string ⟨#[115,112,111,105,108,116]⟩,.string ⟨#[]⟩]).ownsRow C 123 2 (.slice (some ⟨g,0,none⟩) m xc) m ys):=Lib.hid (hset _ _ (setCells_heap _ _ _ _ hc1) (putAll_size3 _ _ _))
    have HTS:Hid (Turn (ob (.slice (some ⟨g,0,none⟩) m xc)) wr (ws.setCells g (i*2) [.string ⟨#[115,112,111,105,108,116]⟩,.string ⟨#[]⟩])):=Lib.hid (HTR.out.trans (turn_setCells _ _ _ _) (fun y hy=> .inl (by simpa [ob,Value.ownBlock] using hy)))
    have hs1:=setCell_heap ws g (i*2) (.string ⟨#[115,112,111,105,108,116]⟩) _ _ hc1
    obtain⟨z0,a0⟩:∃ z0,ws.cell? ⟨g,i*2,none⟩=some z0:=⟨_,by rw[cell_of_heap hc1,Array.getElem?_eq_getElem (by omega)]⟩
    obtain⟨z1,a1⟩:∃ z1,(ws.setCell ⟨g,i*2,none⟩ (.string ⟨#[115,112,111,105,108,116]⟩)).cell? ⟨g,i*2+1,none⟩=some z1:=⟨_,by rw[cell_of_heap hs1,Array.getElem?_eq_getElem (by rw[Array.size_setIfInBounds];omega)]⟩
    have b0:ws.frozen? ⟨g,i*2,none⟩=false:=frozen_of_heap hc1
    have b1:(ws.setCell ⟨g,i*2,none⟩ (.string ⟨#[115,112,111,105,108,116]⟩)).frozen? ⟨g,i*2+1,none⟩=false:=frozen_of_heap hs1
    clear hs1 hc1 hc2 hset hys
    go_wp2
    go_roundw
    case rel=>exact ⟨i+1,by omega,by go_num,HTS,HCS⟩
    case measure=>simp [RowKit.intOf];omega
  · obtain rfl:i=m:=by omega
    go_wp2
    exact HKH.out _ _ _ _ _ _ _ _ _ _ _ ws ⟨HCR.out,HTR.out⟩
end Go.Proofs.YtnmejonfdfdegaaGreatDoor.Sr
namespace Go.Proofs.YtnmejonfdfdegaaGreatDoor.Sr
open Go.RowKit Go.Maps Go.WideMaps Rf Go.Proofs.YtnmejonfdfdegaaGreatDoor.Nm St
open Lib (hid)
theorem va_b4 {Q:Exit→Act→World→Prop} (u0 u1 u2 u3 u4 u5 u6 u7 u8 jj jk jl jm jn jo jp jq jr js jt ju jv jw jx jy jz jA jB jC jD jE jF jG jH jI jJ jK jL jM jN jO jP jQ jR jS jT jU jV jW jX jY jZ j0 j1 j2 j3 j4 j5 j6 j7 j8 j9 ya yc yd ye yf yg yh yi yj yk yl ym yn yo yp yq yr yt yu yv yw yx yy yz yA yB yC yD yE yF yG yH yI yJ yK yL yM yN yO yP yQ yR yS yT yU yV yW yX yY yZ y0 y1 y2 y3 y4 y5 y6 y7 y8 y9 Ja Jb Jc Jd Je Jf Jg Jh Ji Jj Jk Jl Jm Jn Jo Jp Jq Jr Js Jt Ju Jv Jw Jx Jy Jz JA JB JC JD JE JF JG JH JI JJ JK JL JM JN JO JP JQ JR JS JT JU JV JW JX JY JZ J0 J1 J2 J3 J4 J5 J6 J7 J8 J9 Ya Yb Yc:Value) {v:Value} {m C:Nat} {wr:World}
 (hP:∀ c (a a':Act) w,a.defers=a'.defers→Q (.panic c) a w→Q (.panic c) a' w) (hm:m≤1000000) (hC:C≤wr.heap.size) (HO:Hid (∃ ys,wr.ownsRow C 123 2 v m ys))
 (HK:∀ (t9 ja jb jc jd je jf jg jh ji:Value) (w':World),(∃ a c,t9= .slice a (m+20) c)∧Turn (ob v) wr w'→Q .normal ⟨#[u0,u1,u2,u3,u4,u5,u6,u7,u8,t9,jj,ja,jk,jl,jm,jn,jo,jp,jq,jr,js,jt,ju,jv,jw,jx,jy,jz,jA,jB,jC,jD,jE,jF,jG,jH,jI,jJ,jK,jL,jM,jN,jO,jP,jQ,jR,jS,jT,jU,jV,jW,jX,jY,jZ,j0,j1,j2,j3,j4,j5,j6,j7,j8,j9,ya,yc,yd,ye,yf,yg,yh,yi,yj,yk,yl,ym,yn,yo,yp,yq,yr,yt,yu,yv,yw,yx,yy,yz,yA,yB,yC,yD,yE,yF,yG,yH,yI,yJ,yK,yL,yM,yN,yO,yP,yQ,yR,yS,yT,yU,yV,yW,yX,yY,yZ,y0,y1,y2,y3,y4,y5,y6,y7,y8,y9,Ja,Jb,Jc,Jd,Je,Jf,Jg,Jh,jb,jc,jd,je,jf,jg,jh,ji,Jq,Jr,Js,Jt,Ju,Jv,Jw,Jx,Jy,Jz,JA,JB,JC,JD,JE,JF,JG,JH,JI,JJ,JK,JL,JM,JN,JO,JP,JQ,JR,JS,JT,JU,JV,JW,JX,JY,JZ,J0,J1,J2,J3,J4,J5,J6,J7,J8,J9,Ya,Yb,Yc],[]⟩ w'):
 Code.wp Tryz.prog (vaB 4) Q ⟨#[u0,u1,u2,u3,u4,u5,u6,u7,u8,v,jj,.int .i64 0,jk,jl,jm,jn,jo,jp,jq,jr,js,jt,ju,jv,jw,jx,jy,jz,jA,jB,jC,jD,jE,jF,jG,jH,jI,jJ,jK,jL,jM,jN,jO,jP,jQ,jR,jS,jT,jU,jV,jW,jX,jY,jZ,j0,j1,j2,j3,j4,j5,j6,j7,j8,j9,ya,yc,yd,ye,yf,yg,yh,yi,yj,yk,yl,ym,yn,yo,yp,yq,yr,yt,yu,yv,yw,yx,yy,yz,yA,yB,yC,yD,yE,yF,yG,yH,yI,yJ,yK,yL,yM,yN,yO,yP,yQ,yR,yS,yT,yU,yV,yW,yX,yY,yZ,y0,y1,y2,y3,y4,y5,y6,y7,y8,y9,Ja,Jb,Jc,Jd,Je,Jf,Jg,Jh,Ji,Jj,Jk,Jl,Jm,Jn,Jo,Jp,Jq,Jr,Js,Jt,Ju,Jv,Jw,Jx,Jy,Jz,JA,JB,JC,JD,JE,JF,JG,JH,JI,JJ,JK,JL,JM,JN,JO,JP,JQ,JR,JS,JT,JU,JV,JW,JX,JY,JZ,J0,J1,J2,J3,J4,J5,J6,J7,J8,J9,Ya,Yb,Yc],[]⟩ wr:=by
 have HKH:=hid HK
 clear HK
 conv=>arg 2;whnf
 obtain⟨i0,hi0,hz0,hz1,hz2⟩:=info_parts infoXa
 have hz3:(Value.agg #[.string ⟨#[]⟩,.string ⟨#[]⟩]).cells.size=2:=by kernel_rfl
 have HC:Hid (C≤wr.heap.size):=hid hC
 clear hC
 go_wp2
 go_loopw [9,11] (fun v9 v11 ws=>∃ k:Nat,k≤20∧v11= .int .i64 (k:Int)∧∃ ys,Hid (ws.ownsRow C 123 2 v9 (m+k) ys)∧Hid (Turn (ob v) wr ws)∧Hid (∀ b∈ob v9,b∈ob v∨wr.heap.size≤b)) (fun _ v11 _=>20 - (RowKit.intOf v11).toNat)
 case atStart=>obtain ⟨ys,hys⟩:=HO.out;exact⟨0,by omega,rfl,ys,hid hys,hid (Turn.refl _ _),hid (fun _ h=> .inl h)⟩
 case round=>
  rename World=>ws
  clear HO
  obtain⟨k,hk,rfl,ys,HY,HTR,HOB⟩:=hrel
  by_cases hil:(k:Int) < 20
  · have hk2:k < 20:=by omega
    go_wp2_with (first
     |(refine wpList_oneH 2 (by decide) (by decide) rfl 77 123 (.tmp 137) [.string ⟨#[98,101,104,105,110,100]⟩,.string ⟨#[]⟩] i0 _ rfl rfl Tryz.underlying77 hi0 hz0 hz1 rfl ?_
       intro yb wab hhb hgb hyb hsb
       have HHb:=hid hhb;have HGb:=hid hgb
       clear hhb hgb hyb hsb)
     |(refine wpList_appendN 2 (by decide) rfl _ _ 77 rfl C 123 i0 _ 32 Tryz.underlying77 hi0 hz0 hz1 hz2 hz3 _ (m+k) ys rfl (rowS_kept HY.out (fun x _ hl=>HGb.out.block x hl (fun h=>nomatch h))) _ 1 [.string ⟨#[98,101,104,105,110,100]⟩,.string ⟨#[]⟩] rfl HHb.out rfl (by intro u hu;simp only[List.mem_cons,List.not_mem_nil,or_false] at hu;rcases hu with rfl|rfl <;> rfl) (by unfold maxLen;omega) (by omega) (Nat.le_trans HC.out (Nat.le_trans HTR.out.size HGb.out.size)) ?_
       intro vb wbb hob hkb hvb
       have HTb:Hid (Turn (ob v) wr wbb):=hid (turn_grown (turn_grown HTR.out HGb.out (fun k hk=>nomatch hk)) hkb (fun k hk=>HOB.out k hk))
       have HOb:Hid (∀ b∈ob vb,b∈ob v∨wr.heap.size≤b):=hid (fun b hb=>(ob_new hvb (Nat.le_trans HTR.out.size HGb.out.size) b hb).elim (HOB.out b) .inr)
       have HYb:=hid hob
       clear hob hkb hvb HHb HGb)
     |fail)
    go_roundw
    case rel=>exact ⟨k+1,by omega,by go_num,_,HYb,HTb,HOb⟩
    case measure=>simp [RowKit.intOf];omega
  · obtain rfl:k=20:=by omega
    obtain⟨aa,cc,rfl⟩:=rowS_slice HY.out
    go_wp2
    exact HKH.out _ _ _ _ _ _ _ _ _ _ ws ⟨⟨aa,cc,rfl⟩,HTR.out⟩
end Go.Proofs.YtnmejonfdfdegaaGreatDoor.Sr
