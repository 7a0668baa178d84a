import Derived.Test.YtnmejonfdfdegaaGreatDoorZPMvB0
set_option linter.unusedSimpArgs false
set_option linter.unusedVariables false
set_option maxHeartbeats 40000000
set_option maxRecDepth 100000
namespace Go.Proofs.YtnmejonfdfdegaaGreatDoor.Sr
open Go.RowKit Go.Maps Go.WideMaps Rf Go.Proofs.YtnmejonfdfdegaaGreatDoor.Nm St
open Lib (hid)
def onR (a:PN) (R:List RN):List RN:=R.filter fun m=>a.isPrefixOf m.nm
theorem onR_more {a:PN} {R:List RN} {i:Nat} {y:RN} (h:R[i]? =some y):onR a (R.take (i+1))=onR a (R.take i)++(if a.isPrefixOf y.nm then [y] else []):=by
 rw[List.take_add_one,h,onR,List.filter_append]
 cases hp:a.isPrefixOf y.nm <;> simp[onR,hp]
structure MvI (W w:World) (a b:PN) (R:List RN) (v17 v18:Value) (k:Nat) (G:List RN):Prop where
 bel:Below W.heap.size W w
 stay:w.ownsRow W.heap.size RnT 11 v17 (offR a (R.take k)).length (rcells (offR a (R.take k)))
 go:w.ownsRow W.heap.size RnT 11 v18 G.length (rcells G)
 dis:∀ q∈ob v17,q ∉ ob v18
 te:G.map RN.te=(onR a (R.take k)).map fun m=>(mvN a b m m.nv).te
 path:∀ m∈G,PathAt W.heap.size w m.nv m.nm
 xs:∀ m∈G,∃ m0∈R,m.xv=m0.xv∧m.at_=m0.at_
 apart:∀ m∈G,∀ q∈ob m.nv,q ∉ ob v17∧q ∉ ob v18
section
variable {W w w':World} {a b:PN} {R:List RN} {v17 v18:Value} {k:Nat} {G:List RN}
theorem MvI.lt (h:MvI W w a b R v17 v18 k G):∀ q∈ob v17++(ob v18++G.flatMap fun m=>ob m.nv),q < w.heap.size:=by
 intro q hq
 rw[List.mem_append,List.mem_append] at hq
 rcases hq with hq|hq|hq
 · exact rowS_lt h.stay q hq
 · exact rowS_lt h.go q hq
 · obtain⟨m,hm,hq⟩:=List.mem_flatMap.1 hq
   exact rowS_lt (h.path m hm).row q hq
theorem MvI.kept (h:MvI W w a b R v17 v18 k G) (hb:Below W.heap.size W w') (hk:∀ q∈ob v17++(ob v18++G.flatMap fun m=>ob m.nv),w'.heap[q]? =w.heap[q]?):MvI W w' a b R v17 v18 k G:=
 ⟨hb,rowS_kept h.stay (fun q hq _=>hk q (by rw[List.mem_append];exact .inl hq)),rowS_kept h.go (fun q hq _=>hk q (by rw[List.mem_append,List.mem_append];exact .inr (.inl hq))),h.dis,h.te,
  fun m hm=>(h.path m hm).kept (fun q hq=>hk q (by rw[List.mem_append,List.mem_append];exact .inr (.inr (List.mem_flatMap.2 ⟨m,hm,hq⟩)))),h.xs,h.apart⟩
theorem MvI.below (h:MvI W w a b R v17 v18 k G) (hb:Below w.heap.size w w'):MvI W w' a b R v17 v18 k G:=
 h.kept (h.bel.trans (hb.mono h.bel.size)) (fun q hq=>hb.block q (h.lt q hq))
theorem own_cases {v v':Value} {s:Nat} (hv:v'.ownBlock=v.ownBlock∨v'.ownBlock=some s):∀ q∈ob v',q∈ob v∨q=s:=by
 intro q hq
 simp only[ob,Option.mem_toList] at hq ⊢
 rcases hv with hv|hv
 · rw[hv] at hq;exact .inl hq
 · rw[hv] at hq;injection hq with hq;exact .inr hq.symm
theorem MvI.stayed (h:MvI W w a b R v17 v18 k G) {y:RN} (hy:R[k]? =some y) (hp:a.isPrefixOf y.nm=false) {v':Value} {s:Nat} (hs:w.heap.size≤s) (ho:w'.ownsRow W.heap.size RnT 11 v' ((offR a (R.take k)).length+1) (rcells (offR a (R.take k))++y.cells)) (hb:Below W.heap.size W w') (hg:∀ q,q < w.heap.size→some q≠v17.ownBlock→w'.heap[q]? =w.heap[q]?) (hv:v'.ownBlock=v17.ownBlock∨v'.ownBlock=some s):
 MvI W w' a b R v' v18 (k+1) G:=by
 have hoff:offR a (R.take (k+1))=offR a (R.take k)++[y]:=by rw[offR_more hy,hp];rfl
 have hon:onR a (R.take (k+1))=onR a (R.take k):=by rw[onR_more hy,hp];exact List.append_nil _
 have hne:∀ q,q ∉ ob v17→some q≠v17.ownBlock:=fun q hq e=>hq (by simp[ob,←e])
 refine⟨hb,?_,rowS_kept h.go (fun q hq hl=>hg q hl (hne q (fun h1=>h.dis q h1 hq))),fun q hq hq2=>?_,by rw[hon];exact h.te,fun m hm=>(h.path m hm).kept (fun q hq=>hg q (rowS_lt (h.path m hm).row q hq) (hne q (h.apart m hm q hq).1)),h.xs,fun m hm q hq=>⟨fun h1=>?_,(h.apart m hm q hq).2⟩⟩
 · rw[hoff,←rcells_one,List.length_append];exact ho
 · rcases own_cases hv q hq with h1|h1
   · exact h.dis q h1 hq2
   · have:=rowS_lt h.go q hq2;omega
 · rcases own_cases hv q h1 with h1|h1
   · exact(h.apart m hm q hq).1 h1
   · have:=rowS_lt (h.path m hm).row q hq;omega
theorem MvI.gone (h:MvI W w a b R v17 v18 k G) {y:RN} (hy:R[k]? =some y) (hp:a.isPrefixOf y.nm=true) {nv:Value} (hpath:PathAt W.heap.size w nv (b++y.nm.drop a.length)) (hap:∀ q∈ob nv,q ∉ ob v17∧q ∉ ob v18) {v':Value} {s:Nat} (hs:w.heap.size≤s) (ho:w'.ownsRow W.heap.size RnT 11 v' (G.length+1) (rcells G++(mvN a b y nv).cells)) (hb:Below W.heap.size W w') (hg:∀ q,q < w.heap.size→some q≠v18.ownBlock→w'.heap[q]? =w.heap[q]?) (hv:v'.ownBlock=v18.ownBlock∨v'.ownBlock=some s):
 MvI W w' a b R v17 v' (k+1) (G++[mvN a b y nv]):=by
 have hoff:offR a (R.take (k+1))=offR a (R.take k):=by rw[offR_more hy,hp];exact List.append_nil _
 have hon:onR a (R.take (k+1))=onR a (R.take k)++[y]:=by rw[onR_more hy,hp];rfl
 have hne:∀ q,q ∉ ob v18→some q≠v18.ownBlock:=fun q hq e=>hq (by simp[ob,←e])
 refine⟨hb,by rw[hoff];exact rowS_kept h.stay (fun q hq hl=>hg q hl (hne q (h.dis q hq))),?_,fun q hq hq2=>?_,?_,fun m hm=>?_,fun m hm=>?_,fun m hm q hq=>?_⟩
 · rw[←rcells_one,List.length_append];exact ho
 · rcases own_cases hv q hq2 with h1|h1
   · exact h.dis q hq h1
   · have:=rowS_lt h.stay q hq;omega
 · rw[hon,List.map_append,List.map_append,h.te];rfl
 · rcases List.mem_append.1 hm with hm|hm
   · exact(h.path m hm).kept (fun q hq=>hg q (rowS_lt (h.path m hm).row q hq) (hne q (h.apart m hm q hq).2))
   · obtain rfl:=List.mem_singleton.1 hm
     exact hpath.kept (fun q hq=>hg q (rowS_lt hpath.row q hq) (hne q (hap q hq).2))
 · rcases List.mem_append.1 hm with hm|hm
   · exact h.xs m hm
   · obtain rfl:=List.mem_singleton.1 hm
     exact⟨y,List.mem_of_getElem? hy,rfl,rfl⟩
 · have key:q < w.heap.size∧q ∉ ob v17∧q ∉ ob v18:=by
    rcases List.mem_append.1 hm with hm|hm
    · exact⟨rowS_lt (h.path m hm).row q hq,h.apart m hm q hq⟩
    · obtain rfl:=List.mem_singleton.1 hm
      exact⟨rowS_lt hpath.row q hq,hap q hq⟩
   refine⟨key.2.1,fun h1=>?_⟩
   rcases own_cases hv q h1 with h1|h1
   · exact key.2.2 h1
   · have:=key.1;omega
end
theorem mv_b2 {Q:Exit→Act→World→Prop} (u1 u2 u3 u4 u5 u6 u8 jQ jR jS jT jU jV jW jX jY jZ j0 j1 j2 j3 j4 j5 j6 j7 j8 j9 ya yb yc ye yf yg yh yi yj yk yl ym yn yo yp yq yr ys yt yu yv yw yx yy yz yA yB yC yD yE yF yG yH yI yJ yK yL yM yN yO yP yQ yR yS yT yU yV yW yX yY yZ y0 y1 y2 y3 y4 y5 y6 y7 y8 y9 Ja Jb Jc Jd Je Jf Jg Jh Ji Jj Jk Jl Jm Jn Jo Jp Jq Jr Js Jt Ju Jv Jw Jx Jy Jz JA JB JC JD JE JF JG JH JI JJ JK JL JM JN JO JP JQ JR JS JT JU JV JW JX JY JZ J0 J1 J2 J3 J4 J5 J6 J7 J8 J9 Ya Yb Yc Yd Ye Yf Yg Yh Yi Yj Yk Yl Ym Yn Yo Yp Yq Yr Ys Yt Yu Yv Yw Yx Yy Yz YA YB YC YD YE YF YG YH YI YJ YK YL YM YN YO YP YQ YR YS YT YU YV YW YX YY YZ Y0 Y1 Y2 Y3 Y4 Y5 Y6 Y7 Y8 Y9 Xa Xb Xc Xd Xe Xf Xg Xh Xi:Value) {B B2:Nat} {r ac bc vc:Nat} {va aa ba:Option Addr} {a b:PN} {R:List RN} {F:Tr} {W:World}
 (hP:∀ c (a a':Act) w,a.defers=a'.defers→Q (.panic c) a w→Q (.panic c) a' w) (hlen:R.length≤1000000) (hal:a.length≤1000) (hbl:b.length≤1000) (hane:a≠[]) (H:Hid (RTree B W r (.slice va R.length vc) R F)) (HA:Hid (St.StrsAt W (.slice aa a.length ac) a)) (HPB:Hid (PathAt B2 W (.slice ba b.length bc) b)) (HD16:Hid (∀ m∈R,m.nm.length≤1000))
 (HK:∀ (ja jb jc jd je jf jg jh ji jj jk jl jm jn jo jp jq jr js jt ju jv jw jx jy jz jA jB jC jD jE jF jG jH jI jJ jK jL jM jN jO jP:Value) (w':World),(∃ G,MvI W w' a b R ja jb R.length G)→Q .normal ⟨#[.pointer (some ⟨r,0,none⟩),u1,u2,u3,u4,u5,u6,.slice aa a.length ac,u8,.slice ba b.length bc,jQ,jR,jS,jT,jU,jV,jW,ja,jb,jc,jd,jY,jZ,j0,j1,j2,j3,j4,j5,j6,j7,j8,j9,ya,yb,yc,ye,yf,yg,yh,yi,yj,yk,yl,ym,yn,yo,yp,yq,yr,ys,yt,yu,yv,yw,yx,yy,yz,yA,yB,yC,yD,yE,yF,yG,yH,yI,yJ,yK,yL,yM,yN,yO,yP,yQ,yR,yS,yT,yU,yV,yW,yX,yY,yZ,y0,y1,y2,y3,y4,y5,y6,y7,y8,y9,Ja,Jb,Jc,Jd,Je,Jf,Jg,Jh,Ji,Jj,Jk,Jl,Jm,Jn,Jo,Jp,Jq,Jr,Js,Jt,Ju,Jv,Jw,Jx,Jy,Jz,JA,JB,JC,JD,JE,JF,JG,JH,JI,JJ,JK,JL,JM,JN,JO,JP,JQ,JR,JS,JT,JU,JV,JW,JX,JY,JZ,J0,J1,J2,J3,J4,J5,J6,J7,J8,J9,Ya,Yb,Yc,Yd,Ye,Yf,Yg,Yh,Yi,Yj,Yk,Yl,Ym,Yn,Yo,Yp,Yq,je,jf,jg,jh,ji,jj,jk,jl,jm,jn,jo,jp,jq,jr,js,jt,ju,jv,jw,jx,jy,jz,jA,jB,jC,jD,jE,jF,jG,jH,jI,jJ,jK,jL,jM,jN,jO,jP,Y3,Y4,Y5,Y6,Y7,Y8,Y9,Xa,Xb,Xc,Xd,Xe,Xf,Xg,Xh,Xi],[]⟩ w'):
 Code.wp Tryz.prog (mvB 2) Q ⟨#[.pointer (some ⟨r,0,none⟩),u1,u2,u3,u4,u5,u6,.slice aa a.length ac,u8,.slice ba b.length bc,jQ,jR,jS,jT,jU,jV,jW,.slice none 0 0,.slice none 0 0,.int .i64 0,jX,jY,jZ,j0,j1,j2,j3,j4,j5,j6,j7,j8,j9,ya,yb,yc,ye,yf,yg,yh,yi,yj,yk,yl,ym,yn,yo,yp,yq,yr,ys,yt,yu,yv,yw,yx,yy,yz,yA,yB,yC,yD,yE,yF,yG,yH,yI,yJ,yK,yL,yM,yN,yO,yP,yQ,yR,yS,yT,yU,yV,yW,yX,yY,yZ,y0,y1,y2,y3,y4,y5,y6,y7,y8,y9,Ja,Jb,Jc,Jd,Je,Jf,Jg,Jh,Ji,Jj,Jk,Jl,Jm,Jn,Jo,Jp,Jq,Jr,Js,Jt,Ju,Jv,Jw,Jx,Jy,Jz,JA,JB,JC,JD,JE,JF,JG,JH,JI,JJ,JK,JL,JM,JN,JO,JP,JQ,JR,JS,JT,JU,JV,JW,JX,JY,JZ,J0,J1,J2,J3,J4,J5,J6,J7,J8,J9,Ya,Yb,Yc,Yd,Ye,Yf,Yg,Yh,Yi,Yj,Yk,Yl,Ym,Yn,Yo,Yp,Yq,Yr,Ys,Yt,Yu,Yv,Yw,Yx,Yy,Yz,YA,YB,YC,YD,YE,YF,YG,YH,YI,YJ,YK,YL,YM,YN,YO,YP,YQ,YR,YS,YT,YU,YV,YW,YX,YY,YZ,Y0,Y1,Y2,Y3,Y4,Y5,Y6,Y7,Y8,Y9,Xa,Xb,Xc,Xd,Xe,Xf,Xg,Xh,Xi],[]⟩ W:=by
 have HKH:=hid HK
 clear HK
 conv=>arg 2;whnf
 obtain⟨i0,hi0,hz0,hz1,hz2⟩:=info_parts infoRn
 have hz3:zeroRn.cells.size=11:=by kernel_rfl
 have HLEN:=hid hlen
 go_wp2
 go_loopw [17,18,19] (fun v17 v18 v19 wr=>∃ (i:Nat) (G:List RN),i≤R.length∧v19= .int .i64 (i:Int)∧Hid (MvI W wr a b R v17 v18 i G)) (fun _ _ v19 _=>R.length - (RowKit.intOf v19).toNat)
 case atStart=>exact ⟨0,[],Nat.zero_le _,rfl,hid ⟨Below.refl _ _,rowS_nil _ _ _ _,rowS_nil _ _ _ _,fun q hq=>by simp[ob,Value.ownBlock] at hq,rfl,by simp,by simp,by simp⟩⟩
 case round=>
  obtain⟨i,G,hi,rfl,HI⟩:=hrel
  have HX:=hid (H.out.below HI.out.bel)
  have c0:wr.cell? ⟨r,0,none⟩=some (.slice va R.length vc):=cell_of_heap HX.out.book
  by_cases hil:(i:Int) < (R.length:Int)
  · have hi1:i < R.length:=by omega
    obtain⟨n,hn⟩:∃ n,R[i]? =some n:=⟨_,List.getElem?_eq_getElem hi1⟩
    obtain⟨gv,cap,hv,hgv⟩:=HX.out.form (by omega)
    injection hv with e1 e2 e3
    subst e1 e3
    have HN:=hid hn
    have HMEM:=hid (List.mem_of_getElem? hn)
    have hd16:=HD16.out n HMEM.out
    have HENT:=hid (HX.out.ent hn)
    have nones:=hid (HX.out.ones (List.mem_of_getElem? hn))
    have HON:Hid (n.cells.toArray.all (·.oneCell')=true):=hid (all_oneCell_toArray nones.out)
    have HAL:Hid ((wr.alloc (.cells #[.slice none 0 0,.int .u8 0,.int .u32 0,.int .u32 0,.int .u32 0,.int .i64 0,.string ⟨#[]⟩,.slice none 0 0,.string ⟨#[]⟩,.int .u64 0,.int .i64 0] RnT)).heap[wr.heap.size]? =some (.cells #[.slice none 0 0,.int .u8 0,.int .u32 0,.int .u32 0,.int .u32 0,.int .i64 0,.string ⟨#[]⟩,.slice none 0 0,.string ⟨#[]⟩,.int .u64 0,.int .i64 0] RnT)):=hid (MapKept.heap_alloc wr _).1
    have HIN1:=hid (infoRn1 n)
    obtain⟨na,nc,hnv⟩:=rowS_slice (HX.out.node n HMEM.out).1.row
    have HNV:=hid hnv
    clear hn hnv e2
    go_upto_region 33 with(first
     |(refine wpList_load_mid rfl _ _ rfl gv (i*11) rfl n.cells _ HENT.out Tryz.underlying86 rfl HIN1.out ?_)
     |(refine Sh.wpList_store_at HAL.out rfl RnT (.tmp 20) (.tmp 188) rfl n.cells.toArray rfl rfl HIN1.out rfl HON.out ?_
       intro w2 hq2 ht2 hs2
       have HQ2:=hid hq2
       have HB2:Hid (Below wr.heap.size wr w2):=hid (((Below.refl wr.heap.size wr).alloc (Nat.le_refl _) _).trans (ht2.below (by simp) (by rw[one_size];omega)))
       have HS2:Hid (w2.heap.size=wr.heap.size+1):=hid (by rw[hs2,one_size])
       clear hq2 ht2 hs2))
    have HI2:=hid (HI.out.below HB2.out)
    have HX2:=hid (HX.out.below HB2.out)
    have cv:w2.cell? ⟨wr.heap.size,0,none⟩=some (.slice na n.nm.length nc):=(cell_of_heap HQ2.out).trans (by rw[←HNV.out];rfl)
    have HAW:=HA.out.below (HI.out.bel.trans (HB2.out.mono HI.out.bel.size))
    have CB:=begins_any w2 _ n.nv a n.nm HAW (HX2.out.node n HMEM.out).1.strs
    rw[HNV.out] at CB
    cases hpre:a.isPrefixOf n.nm with
    |false=>
     rw[hpre] at CB
     have CB:=hid CB
     have HPRE:=hid hpre
     clear hpre HAW
     go_wp2_with fail
     refine CB.out.mono ?_
     rintro ez w5 ⟨rfl,hb5⟩
     have HI5:=hid (HI2.out.below hb5)
     have HQ5:=hid ((hb5.block _ (lt_of_heap HQ2.out)).trans HQ2.out)
     have HBS:Hid (W.heap.size≤w5.heap.size):=hid HI5.out.bel.size
     have hnl:=Nat.le_trans (offR_len a (R.take i)) (by rw[List.length_take];exact Nat.min_le_right _ _:(R.take i).length≤R.length)
     clear hb5 CB
     go_wp2_with (first
      |(refine Sh.wpList_load_at (T:=RnT) (cs:=n.cells.toArray) HQ5.out rfl RnT (.tmp 20) rfl rfl _ Tryz.underlying86 rfl (infoRn1 n) ?_)
      |(refine wpList_oneH 11 (by decide) (by decide) rfl 87 RnT (.tmp 208) n.cells i0 _ rfl rfl Tryz.underlying87 hi0 hz0 hz1 rfl ?_
        intro yd wd hhd hgd hyd hsd
        have HHd:=hid hhd;have HGd:=hid hgd;have HYd:=hid hyd;have HSd:=hid hsd
        clear hhd hgd hyd hsd)
      |(refine wpList_appendN 11 (by decide) rfl _ _ 87 rfl W.heap.size RnT i0 _ 120 Tryz.underlying87 hi0 hz0 hz1 hz2 hz3 u17 (offR a (R.take i)).length (rcells (offR a (R.take i))) rfl (rowS_kept HI5.out.stay (fun x _ hl=>HGd.out.block x hl (fun h=>nomatch h))) _ 1 n.cells rfl HHd.out rfl nones.out (by have:=HLEN.out;unfold maxLen;omega) (by have:=HLEN.out;omega) (by have:=HBS.out;have:=HSd.out;omega) ?_
        intro vd xd hod hgd hvd
        have HOd:=hid hod;have HKd:=hid hgd;have HVd:=hid hvd
        clear hod hgd hvd))
     go_roundw
     case rel=>
      refine⟨i+1,G,by omega,by go_num,hid ?_⟩
      have hb6:Below W.heap.size W xd:=(HI5.out.bel.grown HGd.out HI5.out.bel.size (fun k hk=>nomatch hk)).grown HKd.out (Nat.le_trans HI5.out.bel.size HGd.out.size) (fun x hx=>rowS_ge HI5.out.stay x (by simp[ob,hx]))
      exact HI5.out.stayed HN.out HPRE.out HGd.out.size HOd.out hb6 (fun q hq hne=>(HKd.out.block q (Nat.lt_of_lt_of_le hq HGd.out.size) hne).trans (HGd.out.block q hq (fun h=>nomatch h))) HVd.out
     case measure=>simp [RowKit.intOf];omega
    |true=>
     have hle:=(pre_at.1 hpre).1
     rw[hpre] at CB
     have CB:=hid CB
     have HPRE:=hid hpre
     clear hpre HAW
     go_wp2_with fail
     refine CB.out.mono ?_
     rintro ez w5 ⟨rfl,hb5⟩
     have HI5:=hid (HI2.out.below hb5)
     have hq5:=(hb5.block _ (lt_of_heap HQ2.out)).trans HQ2.out
     have HQ5:=hid hq5
     have HX5:=hid (HX2.out.below hb5)
     have hnn:n.nm≠[]:=fun h0=>by rw[h0] at hle;simp at hle;exact hane hle
     obtain⟨gn,nc2,hnv2,_⟩:=((HX5.out.node n HMEM.out).1).front hnn
     have HPN:=hid (HX5.out.node n HMEM.out).1
     rw[hnv2] at HPN
     have HPB5:Hid (PathAt B2 w5 (.slice ba b.length bc) b):=hid ((HPB.out.below (HI5.out.bel)))
     have HBS5:=hid hb5
     clear hb5 CB hq5
     go_upto_region 34 with(fail)
     refine mv_r34 _ _ _ _ _ _ _ _ _ _ _ _ _ _ _ _ _ _ _ _ _ _ _ _ _ _ _ _ _ _ _ _ _ _ _ _ _ _ _ _ _ _ _ _ _ _ _ _ _ _ _ _ _ _ _ _ _ _ _ _ _ _ _ _ _ _ _ _ _ _ _ _ _ _ _ _ _ _ _ _ _ _ _ _ _ _ _ _ _ _ _ _ _ _ _ _ _ _ _ _ _ _ _ _ _ _ _ _ _ _ _ _ _ _ _ _ _ _ _ _ _ _ _ _ _ _ _ _ _ _ _ _ _ _ _ _ _ _ _ _ _ _ _ _ _ _ _ _ _ _ _ _ _ _ _ _ _ _ _ _ _ _ _ _ _ _ _ _ _ _ _ _ _ _ _ _ _ _ _ _ _ _ _ _ _ _ _ _ _ _ _ _ _ _ _ _ _ _ _ _ _ _ _ _ _ _ _ _ _ _ _ _ _ _ _ _ _ _ _ _ _ _ _ _ (fun c a a' w hd h=>hP c a a' w hd h) hal hbl hd16 hle HQ5 hnv2 HPB5 HPN ?_
     intro jy jz jA jB jC jD jE jF jG jH w6 h6
     obtain⟨nv6,hq6,hp6,ht6⟩:=h6
     have hsz5:wr.heap.size < w5.heap.size:=lt_of_heap HQ5.out
     have hge6:∀ q∈ob nv6,w5.heap.size≤q:=fun q hq=>rowS_ge hp6.row q hq
     have HI6:Hid (MvI W w6 a b R u17 u18 i G):=hid (HI5.out.kept (HI5.out.bel.trans (ht6.below (by intro x hx;obtain rfl:=List.mem_singleton.1 hx;exact HI.out.bel.size) HI5.out.bel.size)) (fun q hq=>ht6.block q (HI5.out.lt q hq) (by
      have h1:=HI.out.lt q hq
      intro hm;have:=List.mem_singleton.1 hm;omega)))
     have HP6:Hid (PathAt W.heap.size w6 nv6 (b++n.nm.drop a.length)):=hid ⟨row_mono hp6.row HI5.out.bel.size,hp6.len⟩
     have HAP6:Hid (∀ q∈ob nv6,q ∉ ob u17∧q ∉ ob u18):=hid (fun q hq=>⟨fun h1=>by
      have h2:=HI5.out.lt q (by rw[List.mem_append];exact .inl h1)
      have h3:=hge6 q hq;omega,fun h1=>by
      have h2:=HI5.out.lt q (by rw[List.mem_append,List.mem_append];exact .inr (.inl h1))
      have h3:=hge6 q hq;omega⟩)
     obtain⟨N,hN⟩:∃ N,N=mvN a b n nv6:=⟨_,rfl⟩
     rw[←hN] at hq6
     have HQ6:=hid hq6;have HNN:=hid hN
     have Nones:Hid (∀ u∈N.cells,u.oneCell'=true):=hid (by
      rw[hN]
      exact rn_ones (strs_one HP6.out.strs) (xs_one (HX5.out.node n HMEM.out).2))
     have HBS:Hid (W.heap.size≤w6.heap.size):=hid HI6.out.bel.size
     have hnl:G.length≤R.length:=by
      have h1:=congrArg List.length HI6.out.te
      rw[List.length_map,List.length_map] at h1
      have h2:(onR a (R.take i)).length≤(R.take i).length:=List.length_filter_le _ _
      rw[List.length_take] at h2
      omega
     clear hq6 hp6 ht6 hN hge6 hnv2
     go_wp2_with (first
      |(refine Sh.wpList_load_at (T:=RnT) (cs:=N.cells.toArray) HQ6.out rfl RnT (.tmp 20) rfl rfl _ Tryz.underlying86 rfl (infoRn1 N) ?_)
      |(refine wpList_oneH 11 (by decide) (by decide) rfl 87 RnT (.tmp 204) N.cells i0 _ rfl rfl Tryz.underlying87 hi0 hz0 hz1 rfl ?_
        intro yd wd hhd hgd hyd hsd
        have HHd:=hid hhd;have HGd:=hid hgd;have HYd:=hid hyd;have HSd:=hid hsd
        clear hhd hgd hyd hsd)
      |(refine wpList_appendN 11 (by decide) rfl _ _ 87 rfl W.heap.size RnT i0 _ 120 Tryz.underlying87 hi0 hz0 hz1 hz2 hz3 u18 G.length (rcells G) rfl (rowS_kept HI6.out.go (fun x _ hl=>HGd.out.block x hl (fun h=>nomatch h))) _ 1 N.cells rfl HHd.out rfl Nones.out (by have:=HLEN.out;unfold maxLen;omega) (by have:=HLEN.out;omega) (by have:=HBS.out;have:=HSd.out;omega) ?_
        intro vd xd hod hgd hvd
        have HOd:=hid hod;have HKd:=hid hgd;have HVd:=hid hvd
        clear hod hgd hvd))
     go_roundw
     case rel=>
      refine⟨i+1,G++[N],by omega,by go_num,hid ?_⟩
      have hb7:Below W.heap.size W xd:=(HI6.out.bel.grown HGd.out HI6.out.bel.size (fun k hk=>nomatch hk)).grown HKd.out (Nat.le_trans HI6.out.bel.size HGd.out.size) (fun x hx=>rowS_ge HI6.out.go x (by simp[ob,hx]))
      have hod:=HOd.out
      rw[HNN.out] at hod ⊢
      exact HI6.out.gone HN.out HPRE.out HP6.out HAP6.out HGd.out.size hod hb7 (fun q hq hne=>(HKd.out.block q (Nat.lt_of_lt_of_le hq HGd.out.size) hne).trans (HGd.out.block q hq (fun h=>nomatch h))) HVd.out
     case measure=>simp [RowKit.intOf];omega
  · obtain rfl:i=R.length:=by omega
    go_wp2
    exact HKH.out _ _ _ _ _ _ _ _ _ _ _ _ _ _ _ _ _ _ _ _ _ _ _ _ _ _ _ _ _ _ _ _ _ _ _ _ _ _ _ _ _ _ _ ⟨G,HI.out⟩
end Go.Proofs.YtnmejonfdfdegaaGreatDoor.Sr
