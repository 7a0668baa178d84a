import Derived.Test.YtnmejonfdfdegaaGreatDoorZPMvB0
import Derived.Test.YtnmejonfdfdegaaGreatDoorZPMvB2
import Derived.Test.YtnmejonfdfdegaaGreatDoorZPZz
set_option linter.unusedSimpArgs false
set_option linter.unusedVariables false
set_option maxHeartbeats 40000000
set_option maxRecDepth 100000
namespace Go.Proofs.YtnmejonfdfdegaaGreatDoor.Sr
open Go.RowKit Go.Maps Go.WideMaps Rf Go.Proofs.YtnmejonfdfdegaaGreatDoor.Nm St
open Lib (hid)
def putsR (G R:List RN):List RN:=G.foldl (fun R m=>insR m R) R
def putsT (G L:List TE):List TE:=G.foldl (fun L e=>insT e L) L
theorem putsR_te:∀ (G R:List RN),(putsR G R).map RN.te=putsT (G.map RN.te) (R.map RN.te)
 |[],_=>rfl
 |m::G,R=>by
  show(putsR G (insR m R)).map RN.te=putsT (G.map RN.te) (insT m.te (R.map RN.te))
  rw[putsR_te G,insR_te]
theorem putsR_more {G R:List RN} {i:Nat} {m:RN} (h:G[i]? =some m):putsR (G.take (i+1)) R=insR m (putsR (G.take i) R):=by
 rw[putsR,List.take_add_one,h,List.foldl_append];rfl
theorem putsT_more {G:List RN} {L:List TE} {i:Nat} {m:RN} (h:G[i]? =some m):putsT ((G.take (i+1)).map RN.te) L=insT m.te (putsT ((G.take i).map RN.te) L):=by
 rw[putsT,List.take_add_one,h,List.map_append,List.foldl_append];rfl
theorem putsR_len:∀ (G R:List RN),(putsR G R).length=R.length+G.length
 |[],_=>rfl
 |m::G,R=>by
  show(putsR G (insR m R)).length=_
  rw[putsR_len G,insR_len,List.length_cons];omega
theorem robL_puts {b:Nat}:∀ {G R:List RN},b∈robL (putsR G R)→b∈robL G∨b∈robL R
 |[],_,h=> .inr h
 |m::G,R,h=>by
  rcases robL_puts (G:=G) (R:=insR m R) h with h|h
  · exact .inl (by rw[robL,List.flatMap_cons,List.mem_append];exact .inr h)
  · rcases robL_ins h with h|h
    · exact .inl (by rw[robL,List.flatMap_cons,List.mem_append];exact .inl h)
    · exact .inr h
theorem row_ent {w:World} {C g n cap:Nat} {G:List RN} (h:w.ownsRow C RnT 11 (.slice (some ⟨g,0,none⟩) n cap) G.length (rcells G)) {i:Nat} {e:RN} (he:G[i]? =some e):w.rangeAt g (i*11) e.cells:=by
 obtain⟨h1,⟨hc,_⟩|⟨g',cap',cur,hv,a1,a2,a3,a4,a5,a6⟩⟩:=h
 · cases hc
 · injection hv with e1 e2 e3
   injection e1 with e1
   injection e1 with e1
   subst e1
   intro t u hu
   rw[cell_of_heap a2]
   have hk:=rcells_at he hu
   rw[←a6] at hk
   have hlt:i*11+t < G.length*11:=by
    have:=(List.getElem?_eq_some_iff.1 hk).1
    rw[List.length_take] at this
    omega
   rw[List.getElem?_take_of_lt hlt,Array.getElem?_toList] at hk
   exact hk
structure PutI (B:Nat) (w wr:World) (r:Nat) (v:Value) (R:List RN) (F:Tr) (G:List RN) (i:Nat) (vi:Value):Prop where
 tree:RTree B wr r vi (putsR (G.take i) R) {F with L:=putsT ((G.take i).map RN.te) F.L}
 turn:Turn [r] w wr
 own:∀ q∈ob vi,q∈ob v∨w.heap.size≤q
theorem mv_b4 {Q:Exit→Act→World→Prop} (u1 u2 u3 u4 u5 u6 u7 u8 u9 jn jo jp jq jr js jt ju jv jw jx jy jz jA jB jC jD jE jF jG jH jI jJ jK jL jM jN jO jP jQ jR jS jT jU jV jW jX jY jZ j0 j1 j2 j3 j4 j5 j6 j7 j8 j9 ya yb yc yd ye yf yg yh yi yj yk yl ym yn yo yp yq yr ys yt yu yv yw yx yy yz yA yB yC yD yE yF yG yH yI yJ yK yL yM yN yO yP yQ yR yS yT yU yV yW yX yY yZ y0 y1 y2 y3 y4 y5 y6 y7 y8 y9 Ja Jb Jc Jd Je Jf Jg Jh Ji Jj Jk Jl Jm Jn Jo Jp Jq Jr Js Jt Ju Jv Jw Jx Jy Jz JA JB JC JD JE JF JG JH JI JJ JK JL JM JN JO JP JQ JR JS JT JU JV JW JX JY JZ J0 J1 J2 J3 J4 J5 J6 J7 J8 J9 Ya Yb Yc Yd Ye Yf Yg Yh Yi Yj Yk Yl Ym Yn Yo Yp Yq Yr Ys Yt Yu Yv Yw Yx Yy Yz YA YB YC YD YE YF YG YH YI YJ YK YL YM YN YO YP:Value) {B C:Nat} {r gc:Nat} {ga:Option Addr} {v:Value} {R G:List RN} {F:Tr} {w:World}
 (hP:∀ c (a a':Act) w,a.defers=a'.defers→Q (.panic c) a w→Q (.panic c) a' w) (hlen:R.length+G.length≤1000000) (H:Hid (RTree B w r v R F)) (HG:Hid (w.ownsRow C RnT 11 (.slice ga G.length gc) G.length (rcells G))) (HGR:Hid (∀ q∈ob (.slice ga G.length gc),q≠r)) (HPX:Hid (∀ m∈G,PathAt B w m.nv m.nm∧XsAt w m.xv m.at_.xs)) (HNB:Hid (∀ m∈G,∀ q∈robN m,B≤q∧q≠r)) (HBW:Hid (B≤w.heap.size))
 (HK:∀ (ja jb jc jd je jf jg jh ji jj jk jl jm:Value) (w':World),(∃ v',RTree B w' r v' (putsR G R) {F with L:=putsT (G.map RN.te) F.L}∧Turn [r] w w'∧∀ q∈ob v',q∈ob v∨w.heap.size≤q)→Q .normal ⟨#[.pointer (some ⟨r,0,none⟩),u1,u2,u3,u4,u5,u6,u7,u8,u9,jn,jo,jp,jq,jr,js,jt,ju,.slice ga G.length gc,jv,jw,ja,jx,jy,jz,jA,jB,jC,jD,jE,jF,jG,jH,jI,jJ,jK,jL,jM,jN,jO,jP,jQ,jR,jS,jT,jU,jV,jW,jX,jY,jZ,j0,j1,j2,j3,j4,j5,j6,j7,j8,j9,ya,yb,yc,yd,ye,yf,yg,yh,yi,yj,yk,yl,ym,yn,yo,yp,yq,yr,ys,yt,yu,yv,yw,yx,yy,yz,yA,yB,yC,yD,yE,yF,yG,yH,yI,yJ,yK,yL,yM,yN,yO,yP,yQ,yR,yS,yT,yU,yV,yW,yX,yY,yZ,y0,y1,y2,y3,y4,y5,y6,y7,y8,y9,Ja,Jb,Jc,Jd,Je,Jf,Jg,Jh,Ji,Jj,Jk,Jl,Jm,Jn,Jo,Jp,Jq,Jr,Js,Jt,Ju,Jv,Jw,Jx,Jy,Jz,JA,JB,JC,JD,JE,JF,JG,JH,JI,JJ,JK,JL,JM,JN,JO,JP,JQ,JR,JS,JT,JU,JV,JW,JX,JY,JZ,J0,J1,J2,J3,J4,J5,J6,J7,J8,J9,Ya,Yb,Yc,Yd,Ye,Yf,Yg,Yh,Yi,Yj,Yk,Yl,Ym,Yn,Yo,Yp,Yq,Yr,Ys,Yt,Yu,Yv,Yw,Yx,Yy,Yz,YA,YB,YC,YD,jb,jc,jd,je,jf,jg,jh,ji,jj,jk,jl,jm],[]⟩ w'):
 Code.wp Tryz.prog (mvB 4) Q ⟨#[.pointer (some ⟨r,0,none⟩),u1,u2,u3,u4,u5,u6,u7,u8,u9,jn,jo,jp,jq,jr,js,jt,ju,.slice ga G.length gc,jv,jw,.int .i64 0,jx,jy,jz,jA,jB,jC,jD,jE,jF,jG,jH,jI,jJ,jK,jL,jM,jN,jO,jP,jQ,jR,jS,jT,jU,jV,jW,jX,jY,jZ,j0,j1,j2,j3,j4,j5,j6,j7,j8,j9,ya,yb,yc,yd,ye,yf,yg,yh,yi,yj,yk,yl,ym,yn,yo,yp,yq,yr,ys,yt,yu,yv,yw,yx,yy,yz,yA,yB,yC,yD,yE,yF,yG,yH,yI,yJ,yK,yL,yM,yN,yO,yP,yQ,yR,yS,yT,yU,yV,yW,yX,yY,yZ,y0,y1,y2,y3,y4,y5,y6,y7,y8,y9,Ja,Jb,Jc,Jd,Je,Jf,Jg,Jh,Ji,Jj,Jk,Jl,Jm,Jn,Jo,Jp,Jq,Jr,Js,Jt,Ju,Jv,Jw,Jx,Jy,Jz,JA,JB,JC,JD,JE,JF,JG,JH,JI,JJ,JK,JL,JM,JN,JO,JP,JQ,JR,JS,JT,JU,JV,JW,JX,JY,JZ,J0,J1,J2,J3,J4,J5,J6,J7,J8,J9,Ya,Yb,Yc,Yd,Ye,Yf,Yg,Yh,Yi,Yj,Yk,Yl,Ym,Yn,Yo,Yp,Yq,Yr,Ys,Yt,Yu,Yv,Yw,Yx,Yy,Yz,YA,YB,YC,YD,YE,YF,YG,YH,YI,YJ,YK,YL,YM,YN,YO,YP],[]⟩ w:=by
 have HKH:=hid HK
 clear HK
 conv=>arg 2;whnf
 go_wp2
 go_loopw [21] (fun v21 wr=>∃ (i:Nat) (vi:Value),i≤G.length∧v21= .int .i64 (i:Int)∧Hid (PutI B w wr r v R F G i vi)) (fun v21 _=>G.length - (RowKit.intOf v21).toNat)
 case atStart=>exact ⟨0,v,Nat.zero_le _,rfl,hid ⟨H.out,Turn.refl _ _,fun q hq=> .inl hq⟩⟩
 case round=>
  obtain⟨i,vi,hi,rfl,HI⟩:=hrel
  by_cases hil:(i:Int) < (G.length:Int)
  · have hi1:i < G.length:=by omega
    obtain⟨n,hn⟩:∃ n,G[i]? =some n:=⟨_,List.getElem?_eq_getElem hi1⟩
    have hmem:=List.mem_of_getElem? hn
    obtain⟨g,cap,hv,hgw,_⟩:=rowS_form HG.out (by omega)
    injection hv with e1 e2 e3
    subst e1 e3
    have hgr:g≠r:=HGR.out g (by simp[ob,Value.ownBlock])
    have hrow:wr.ownsRow C RnT 11 (.slice (some ⟨g,0,none⟩) G.length gc) G.length (rcells G):=rowS_kept HG.out (fun x hx hl=>HI.out.turn.block x hl (by
     have:g=x:=by simp[ob,Value.ownBlock] at hx;exact hx.symm
     subst this
     simpa using hgr))
    have HENT:=hid (row_ent hrow hn)
    have hkb:∀ q∈robN n,wr.heap[q]? =w.heap[q]? :=fun q hq=>by
     have h1:=HNB.out n hmem q hq
     have hlt:q < w.heap.size:=by
      rcases List.mem_append.1 hq with hq|hq
      · exact rowS_lt (HPX.out n hmem).1.row q hq
      · exact(HPX.out n hmem).2.lt q hq
     exact HI.out.turn.block q hlt (by simpa using h1.2)
    have hp:=(HPX.out n hmem).1.kept (w':=wr) (fun q hq=>hkb q (List.mem_append_left _ hq))
    have hx:=(HPX.out n hmem).2.kept HI.out.turn.size (fun q hq=>hkb q (List.mem_append_right _ hq))
    have PU:=hid (put_any B wr r vi _ _ n hp hx (HNB.out n hmem) (Nat.le_trans HBW.out HI.out.turn.size) (by rw[putsR_len,List.length_take];omega) HI.out.tree)
    have HIN1:=hid (infoRn1 n)
    have HMR:=hid (putsR_more (R:=R) hn)
    have HMT:=hid (putsT_more (L:=F.L) hn)
    unfold ptr at PU
    clear hn hp hx hrow hkb e2 hmem
    go_wp2_with (first
     |(refine wpList_load_mid rfl _ _ rfl g (i*11) rfl n.cells _ HENT.out Tryz.underlying86 rfl HIN1.out ?_)
     |fail)
    refine PU.out.mono ?_
    rintro ez w5 ⟨rfl,v5,ht5,hu5,ho5⟩
    have HI5:Hid (PutI B w w5 r v R F G (i+1) v5):=hid ⟨by rw[HMR.out,HMT.out];exact ht5,HI.out.turn.trans hu5 (fun y hy=> .inl hy),fun q hq=> .inr (Nat.le_trans HI.out.turn.size (ho5 q hq))⟩
    clear ht5 hu5 ho5 PU
    go_wp2
    go_roundw
    case rel=>exact ⟨i+1,v5,by omega,by go_num,HI5⟩
    case measure=>simp [RowKit.intOf];omega
  · obtain rfl:i=G.length:=by omega
    have HE:=HI.out
    go_wp2
    refine HKH.out _ _ _ _ _ _ _ _ _ _ _ _ _ _ ⟨vi,?_,HE.turn,HE.own⟩
    have h1:=HE.tree
    rw[List.take_length] at h1
    exact h1
theorem putsT_perm:∀ (G L:List TE),(putsT G L).Perm (G++L)
 |[],L=> .refl _
 |e::G,L=>by
  show(putsT G (insT e L)).Perm _
  refine(putsT_perm G (insT e L)).trans ?_
  refine(List.Perm.append_left G (insT_perm e L)).trans ?_
  exact List.perm_middle
theorem putsT_srt:∀ {G L:List TE},SrtT L→((G++L).map TE.nm).Nodup→SrtT (putsT G L)
 |[],_,h,_=>h
 |e::G,L,h,hn=>by
  have h1:((G++insT e L).map TE.nm).Nodup:=by
   refine(List.Perm.nodup_iff ?_).1 hn
   refine List.Perm.map _ ?_
   exact(List.perm_middle.symm).trans (List.Perm.append_left G (insT_perm e L).symm)
  refine putsT_srt (G:=G) (insT_srt h (fun x hx hxe=>?_)) h1
  rw[List.cons_append,List.map_cons,List.nodup_cons] at hn
  exact hn.1 (List.mem_map.2 ⟨x,List.mem_append_right _ hx,hxe⟩)
theorem srt_nodupM {L:List TE} (h:SrtT L):(L.map TE.nm).Nodup:=by
 have:(L.map TE.nm).Pairwise fun a b=>ahd a b=true:=List.pairwise_map.2 h
 exact this.imp (fun hab=>ahd_ne hab)
theorem srt_perm:∀ {A B:List TE},SrtT A→SrtT B→A.Perm B→A=B
 |[],B,_,_,h=>(List.nil_perm.1 h).symm
 |x::A,[],_,_,h=>by have:=h.length_eq;simp at this
 |x::A,y::B,ha,hb,h=>by
  have hxy:x=y:=by
   obtain⟨a1,_⟩:=List.pairwise_cons.1 ha
   obtain⟨b1,_⟩:=List.pairwise_cons.1 hb
   rcases List.mem_cons.1 (h.mem_iff.1 (List.mem_cons_self:x∈x::A)) with e|hx
   · exact e
   · rcases List.mem_cons.1 (h.mem_iff.2 (List.mem_cons_self:y∈y::B)) with e|hy
     · exact e.symm
     · have:=ahd_asymm (a1 y hy)
       rw[b1 x hx] at this;cases this
  subst hxy
  rw[srt_perm (List.pairwise_cons.1 ha).2 (List.pairwise_cons.1 hb).2 ((List.perm_cons _).1 h)]
theorem anc_in {L:List TE} (par:∀ e∈L,∀ n s,e.nm=n++[s]→∃ u∈L,u.nm=n∧u.at_.node=2):∀ (k:Nat) (e:TE),e∈L→∀ q:PN,e.nm.length=q.length+k→q <+:e.nm→∃ u∈L,u.nm=q
 |0,e,he,q,hk,hp=>⟨e,he,(hp.eq_of_length (by omega)).symm⟩
 |k+1,e,he,q,hk,hp=>by
  have hne:e.nm≠[]:=fun h=>by rw[h] at hk;simp at hk
  obtain⟨u,hu,hun,_⟩:=par e he e.nm.dropLast (e.nm.getLast hne) (List.dropLast_concat_getLast hne).symm
  refine anc_in par k u hu q (by rw[hun,List.length_dropLast];omega) ?_
  rw[hun,List.prefix_iff_eq_take,List.dropLast_eq_take,List.take_take,Nat.min_eq_left (by omega)]
  exact List.prefix_iff_eq_take.1 hp
theorem not_pre_drop {a b:PN} (h:¬ (a.length < b.length∧a <+:b)) (hb:b≠[]):¬ a <+:b.dropLast:=fun hp=>by
 have h1:=hp.length_le
 rw[List.length_dropLast] at h1
 have h2:=List.length_pos_iff.2 hb
 exact h ⟨by omega,hp.trans (List.dropLast_prefix b)⟩
theorem ren_tick {L:List TE} {a b:PN} {c:Int} (par:∀ e∈L,∀ n s,e.nm=n++[s]→∃ u∈L,u.nm=n∧u.at_.node=2) (ha:a≠[]) (hb:b≠[]) (hbn:getT b L=none) (hab:¬ (a.length < b.length∧a <+:b)):
 (tickN [a.dropLast,b.dropLast] c L).map (renE (renP a b))=tickN [a.dropLast,b.dropLast] c (L.map (renE (renP a b))):=by
 rw[tickN,tickN,List.map_map,List.map_map]
 refine List.map_congr_left (fun x hx=>?_)
 show renE (renP a b) (if x.nm∈[a.dropLast,b.dropLast] then({x with tick:=c}:TE) else x)=if (renE (renP a b) x).nm∈[a.dropLast,b.dropLast] then({renE (renP a b) x with tick:=c}:TE) else renE (renP a b) x
 have la:=List.length_pos_iff.2 ha
 have lb:=List.length_pos_iff.2 hb
 have key:(renE (renP a b) x).nm∈[a.dropLast,b.dropLast] ↔ x.nm∈[a.dropLast,b.dropLast]:=by
  show renP a b x.nm∈_ ↔ _
  by_cases hp:a <+:x.nm
  · have h1:renP a b x.nm=b++x.nm.drop a.length:=by rw[renP,if_pos (List.isPrefixOf_iff_prefix.2 hp)]
    rw[h1]
    constructor
    · intro hm
      exfalso
      rw[List.mem_cons,List.mem_singleton] at hm
      rcases hm with hm|hm
      · have hpb0:b <+:a.dropLast:=⟨_,hm⟩
        have hpb:b <+:x.nm:=hpb0.trans ((List.dropLast_prefix a).trans hp)
        obtain⟨u,hu,hun⟩:=anc_in par (x.nm.length - b.length) x hx b (by have:=hpb.length_le;omega) hpb
        exact getT_none.1 hbn u hu hun
      · have:=congrArg List.length hm
        rw[List.length_append,List.length_dropLast] at this;omega
    · intro hm
      exfalso
      rw[List.mem_cons,List.mem_singleton] at hm
      rcases hm with hm|hm
      · have:=hp.length_le;rw[hm,List.length_dropLast] at this;omega
      · rw[hm] at hp;exact not_pre_drop hab hb hp
  · have h1:renP a b x.nm=x.nm:=by
     rw[renP,if_neg (fun h=>hp (List.isPrefixOf_iff_prefix.1 h))]
    rw[h1]
 by_cases hm:x.nm∈[a.dropLast,b.dropLast]
 · rw[if_pos hm,if_pos (key.2 hm)];rfl
 · rw[if_neg hm,if_neg (fun h=>hm (key.1 h))]
theorem move_list {L:List TE} {a b:PN} {c:Int} (hs:SrtT L) (par:∀ e∈L,∀ n s,e.nm=n++[s]→∃ u∈L,u.nm=n∧u.at_.node=2) (ha:a≠[]) (hb:b≠[]) (hbn:getT b L=none) (hab:¬ (a.length < b.length∧a <+:b))
 (hms:SrtT (tickN [a.dropLast,b.dropLast] c (moveT a b L))) (L1:List TE) (hL1:L1=tickN [a.dropLast,b.dropLast] c L):
 putsT ((L1.filter fun m=>a.isPrefixOf m.nm).map (renE (renP a b))) (dropT a L1)=tickN [a.dropLast,b.dropLast] c (moveT a b L):=by
 have hs1:SrtT L1:=by
  have hm:L1.map TE.nm=L.map TE.nm:=by
   rw[hL1,tickN,List.map_map]
   refine List.map_congr_left (fun x _=>?_)
   show(if x.nm∈_ then({x with tick:=c}:TE) else x).nm=x.nm
   split <;> rfl
  have key:(L.map TE.nm).Pairwise fun a b=>ahd a b=true:=List.pairwise_map.2 hs
  rw[←hm] at key
  exact List.pairwise_map.1 key
 have hp1:((L1.filter fun m=>a.isPrefixOf m.nm).map (renE (renP a b))++dropT a L1).Perm (L1.map (renE (renP a b))):=by
  have h1:dropT a L1=(dropT a L1).map (renE (renP a b)):=by
   conv=>lhs;rw[←List.map_id (dropT a L1)]
   refine List.map_congr_left (fun x hx=>?_)
   have hx2:=(List.mem_filter.1 hx).2
   show x={x with nm:=renP a b x.nm}
   rw[renP,if_neg (fun h=>by rw[h] at hx2;simp at hx2)]
  rw[h1,←List.map_append]
  refine List.Perm.map _ ?_
  rw[dropT]
  exact List.filter_append_perm _ _
 have hp2:(tickN [a.dropLast,b.dropLast] c (moveT a b L)).Perm (L1.map (renE (renP a b))):=by
  rw[hL1,ren_tick par ha hb hbn hab,tickN,tickN]
  exact List.Perm.map _ (sortT_perm _)
 refine srt_perm (putsT_srt ?_ ?_) hms ((putsT_perm _ _).trans (hp1.trans hp2.symm))
 · exact List.Pairwise.filter _ hs1
 · refine(List.Perm.nodup_iff (List.Perm.map _ (hp1.trans hp2.symm))).2 (srt_nodupM hms)
theorem long_deep {R:List RN} {L:List TE} (hL:L=R.map RN.te) {a b:PN} (hb:b.length≤16):longR a b R=decide (16 < b.length+deepN L a):=by
 have key:∀ M:List TE,(16 < b.length+M.foldr (fun e d=>max (e.nm.length - a.length) d) 0) ↔ ∃ e∈M,16 < e.nm.length - a.length+b.length:=by
  intro M
  induction M with
  |nil=>simp;omega
  |cons y r ih=>
   rw[List.foldr_cons]
   constructor
   · intro h
     by_cases h1:16 < y.nm.length - a.length+b.length
     · exact⟨y,by simp,h1⟩
     · have h2:16 < b.length+r.foldr (fun e d=>max (e.nm.length - a.length) d) 0:=by
        rcases Nat.le_total (y.nm.length - a.length) (r.foldr (fun e d=>max (e.nm.length - a.length) d) 0) with h3|h3
        · rw[Nat.max_eq_right h3] at h;exact h
        · rw[Nat.max_eq_left h3] at h;omega
       obtain⟨e,he,h3⟩:=ih.1 h2
       exact⟨e,List.mem_cons_of_mem _ he,h3⟩
   · rintro ⟨e,he,h1⟩
     rcases List.mem_cons.1 he with rfl|he
     · have:=Nat.le_max_left (e.nm.length - a.length) (r.foldr (fun e d=>max (e.nm.length - a.length) d) 0);omega
     · have h2:=ih.2 ⟨e,he,h1⟩
       have:=Nat.le_max_right (y.nm.length - a.length) (r.foldr (fun e d=>max (e.nm.length - a.length) d) 0);omega
 rw[Bool.eq_iff_iff,decide_eq_true_iff,deepN,key,longR,List.any_eq_true,hL]
 constructor
 · rintro ⟨m,hm,h⟩
   rw[Bool.and_eq_true,decide_eq_true_eq] at h
   exact⟨m.te,List.mem_filter.2 ⟨List.mem_map.2 ⟨m,hm,rfl⟩,h.1⟩,h.2⟩
 · rintro ⟨e,he,h⟩
   obtain⟨h1,h2⟩:=List.mem_filter.1 he
   obtain⟨m,hm,rfl⟩:=List.mem_map.1 h1
   exact⟨m,hm,by rw[Bool.and_eq_true,decide_eq_true_eq];exact⟨h2,h⟩⟩
theorem onR_te {a b:PN} {R:List RN}:(onR a R).map (fun m=>(mvN a b m m.nv).te)=((R.map RN.te).filter fun m=>a.isPrefixOf m.nm).map (renE (renP a b)):=by
 rw[List.filter_map,List.map_map,onR]
 refine List.map_congr_left (fun m hm=>?_)
 have h2:=(List.mem_filter.1 hm).2
 show(mvN a b m m.nv).te={m.te with nm:=renP a b m.nm}
 rw[renP,if_pos h2];rfl
theorem mv_r26 {Q:Exit→Act→World→Prop} (u1 u2 u3 u4 u5 u6 u7 u8 u9 jA jB jC jD jF jG jH jI jJ jK jL jM jN jO jP jQ jR jS jT jU jV jW jX jY jZ j0 j1 j2 j3 j4 j5 j6 j7 j8 j9 ya yb yc yd ye yf yg yh yi yj yk yl ym yn yo yp yq yr ys yt yu yv yw yx yy yz yA yB yC yD yE yF yG yH yI yJ yK yL yM yN yO yP yQ yR yS yT yU yV yW yX yY yZ y0 y1 y2 y3 y4 y5 y6 y7 y8 y9 Ja Jb Jc Jd Je Jf Jg Jh Ji Jj Jk Jl Jm Jn Jo Jp Jq Jr Js Jt Ju Jv Jw Jx Jy Jz JA JB JC JD JE JF JG JH JI JJ JK JL JM JN JO JP JQ JR JS JT JU JV JW JX JY JZ J0 J1 J2 J3 J4 J5 J6 J7 J8 J9 Ya Yb Yc Yd Ye Yf Yg Yh Yi Yj Yk Yl Ym Yn Yo Yp Yq Yr Ys Yt Yu Yv Yw Yx Yy Yz YA YB YC YD YE YF YG YH YI YJ YK YL YM YN YO YP YQ YR YS YT YU YV YW YX YY YZ Y0 Y1 Y2 Y3 Y4:Value) {B:Nat} {r gv vc lc j:Nat} {la:Option Addr} {l:PN} {e:TE} {R:List RN} {F:Tr} {W:World}
 (hP:∀ c (a a':Act) w,a.defers=a'.defers→Q (.panic c) a w→Q (.panic c) a' w) (hlen:R.length≤1000000) (hll:l.length≤1000) (H:Hid (RTree B W r (.slice (some ⟨gv,0,none⟩) R.length vc) R F)) (HSL:Hid (St.StrsAt W (.slice la l.length lc) l)) (HSRT:Hid (SrtT F.L)) (HJ:Hid (F.L[j]? =some e)) (hen:e.nm=l)
 (HK:∀ (ja jb jc jd je jf jg jh ji jj jk jl jm:Value) (w':World),(∃ m,R[j]? =some m∧m.te=e∧RTree B w' r (.slice (some ⟨gv,0,none⟩) R.length vc) (R.set j {m with tick:=(F.clock:Int)}) {F with L:=F.L.set j {e with tick:=(F.clock:Int)}}∧Turn [gv] W w'∧robL (R.set j {m with tick:=(F.clock:Int)})=robL R)→Q .normal ⟨#[.pointer (some ⟨r,0,none⟩),u1,u2,u3,u4,u5,u6,u7,u8,u9,jA,jB,jC,jD,.slice la l.length lc,jF,jG,jH,jI,jJ,jK,jL,jM,jN,jO,jP,jQ,jR,jS,jT,jU,jV,jW,jX,jY,jZ,j0,j1,j2,j3,j4,j5,j6,j7,j8,j9,ya,yb,yc,yd,ye,yf,yg,yh,yi,yj,yk,yl,ym,yn,yo,yp,yq,yr,ys,yt,yu,yv,yw,yx,yy,yz,yA,yB,yC,yD,yE,yF,yG,yH,yI,yJ,yK,yL,yM,yN,yO,yP,yQ,yR,yS,yT,yU,yV,yW,yX,yY,yZ,y0,y1,y2,y3,y4,y5,y6,y7,y8,y9,Ja,Jb,Jc,Jd,Je,Jf,Jg,Jh,Ji,Jj,Jk,Jl,Jm,Jn,Jo,Jp,Jq,Jr,Js,Jt,Ju,Jv,Jw,Jx,Jy,Jz,JA,JB,JC,JD,JE,JF,JG,JH,JI,JJ,JK,JL,JM,ja,jb,jc,jd,je,jf,jg,jh,ji,jj,jk,jl,jm,J0,J1,J2,J3,J4,J5,J6,J7,J8,J9,Ya,Yb,Yc,Yd,Ye,Yf,Yg,Yh,Yi,Yj,Yk,Yl,Ym,Yn,Yo,Yp,Yq,Yr,Ys,Yt,Yu,Yv,Yw,Yx,Yy,Yz,YA,YB,YC,YD,YE,YF,YG,YH,YI,YJ,YK,YL,YM,YN,YO,YP,YQ,YR,YS,YT,YU,YV,YW,YX,YY,YZ,Y0,Y1,Y2,Y3,Y4],[]⟩ w'):
 Code.wp Tryz.prog (mvR 26) Q ⟨#[.pointer (some ⟨r,0,none⟩),u1,u2,u3,u4,u5,u6,u7,u8,u9,jA,jB,jC,jD,.slice la l.length lc,jF,jG,jH,jI,jJ,jK,jL,jM,jN,jO,jP,jQ,jR,jS,jT,jU,jV,jW,jX,jY,jZ,j0,j1,j2,j3,j4,j5,j6,j7,j8,j9,ya,yb,yc,yd,ye,yf,yg,yh,yi,yj,yk,yl,ym,yn,yo,yp,yq,yr,ys,yt,yu,yv,yw,yx,yy,yz,yA,yB,yC,yD,yE,yF,yG,yH,yI,yJ,yK,yL,yM,yN,yO,yP,yQ,yR,yS,yT,yU,yV,yW,yX,yY,yZ,y0,y1,y2,y3,y4,y5,y6,y7,y8,y9,Ja,Jb,Jc,Jd,Je,Jf,Jg,Jh,Ji,Jj,Jk,Jl,Jm,Jn,Jo,Jp,Jq,Jr,Js,Jt,Ju,Jv,Jw,Jx,Jy,Jz,JA,JB,JC,JD,JE,JF,JG,JH,JI,JJ,JK,JL,JM,JN,JO,JP,JQ,JR,JS,JT,JU,JV,JW,JX,JY,JZ,J0,J1,J2,J3,J4,J5,J6,J7,J8,J9,Ya,Yb,Yc,Yd,Ye,Yf,Yg,Yh,Yi,Yj,Yk,Yl,Ym,Yn,Yo,Yp,Yq,Yr,Ys,Yt,Yu,Yv,Yw,Yx,Yy,Yz,YA,YB,YC,YD,YE,YF,YG,YH,YI,YJ,YK,YL,YM,YN,YO,YP,YQ,YR,YS,YT,YU,YV,YW,YX,YY,YZ,Y0,Y1,Y2,Y3,Y4],[]⟩ W:=by
 have HKH:=hid HK
 clear HK
 conv=>arg 2;whnf
 obtain⟨cc,hcc⟩:∃ cc:Int,cc=(F.clock:Int):=⟨_,rfl⟩
 have HCC:=hid hcc
 have KW:Hid (∀ w',Below W.heap.size W w'→w'.cell? ⟨r,0,none⟩=some (.slice (some ⟨gv,0,none⟩) R.length vc)∧w'.cell? ⟨r,1,none⟩=some (.int .i64 cc)):=hid (fun w' hb=>by
  have hx:=(H.out.below hb).book
  exact⟨cell_of_heap hx,(cell_of_heap hx).trans (by rw[hcc];rfl)⟩)
 have hgr:gv≠r:=H.out.off gv (by simp[ob,Value.ownBlock])
 obtain⟨m,hm,hme⟩:=H.out.get HJ.out
 have hjl:j < R.length:=(List.getElem?_eq_some_iff.1 hm).1
 have HM:=hid hm;have HME:=hid hme
 have AT:=rat_any B W.drew r _ R F _ l (HSL.out.below (Below.refl _ _).drew) HSRT.out hlen (H.out.drew)
 rw[(atI_some HSRT.out HJ.out hen).1] at AT
 have AT:=hid AT
 unfold ptr at AT
 clear hcc hm hme hen
 go_upto_region 26 with(fail)
 refine wp_region_held_drew (S:=(fun w':World=>w'.cell? ⟨r,0,none⟩=some (.slice (some ⟨gv,0,none⟩) R.length vc)∧w'.cell? ⟨r,1,none⟩=some (.int .i64 cc))) (by kernel_rfl) (KW.out _ (Below.refl _ _).drew) (fun zh=>?_)
 iterate 10
  first|refine' tj 0 rfl rfl (pz hP) ?_ zh ?_|refine' tj 1 rfl rfl (pz hP) ?_ zh ?_|refine' tj 2 rfl rfl (pz hP) ?_ zh ?_|refine' tj 3 rfl rfl (pz hP) ?_ zh ?_|refine' tj 4 rfl rfl (pz hP) ?_ zh ?_|refine' tj 5 rfl rfl (pz hP) ?_ zh ?_|refine' tj 7 rfl rfl (pz hP) ?_ zh ?_|refine' tj 8 rfl rfl (pz hP) ?_ zh ?_|refine' tj 9 rfl rfl (pz hP) ?_ zh ?_|refine' tj 10 rfl rfl (pz hP) ?_ zh ?_
  rotate_left
  · intro wS hS;obtain⟨k0,k1⟩:=hS;go_simp;try rfl
  try simp only[Act.put,zA,zB,zC,zD,zE,zF]
 refine wpAnyH_ready (rs:=[6]) (by kernel_rfl) (by simp) ?_
 refine AllReadyH.cons rfl (fun K hK=>?_) AllReadyH.nil
 go_simp
 refine AT.out.mono ?_
 rintro ez wq ⟨rfl,hbq⟩
 have HBQ:Hid (Below W.heap.size W wq):=hid ((Below.refl W.heap.size W).drew.trans hbq)
 clear hbq
 go_wp2_with fail
 refine hK.out _ _ (KW.out _ HBQ.out) ?_
 clear hK K zh
 intro zh
 try simp only[Act.put,zA,zB,zC,zD,zE,zF]
 iterate 2
  first|refine' tj 11 rfl rfl (pz hP) ?_ zh ?_|refine' tj 12 rfl rfl (pz hP) ?_ zh ?_
  rotate_left
  · intro wS hS;obtain⟨k0,k1⟩:=hS;go_simp;try rfl
  try simp only[Act.put,zA,zB,zC,zD,zE,zF]
 refine wpAnyH_ready (rs:=[13]) (by kernel_rfl) (by simp) ?_
 refine AllReadyH.cons rfl (fun K hK=>?_) AllReadyH.nil
 have hTQ:=H.out.below HBQ.out
 obtain⟨hts1,hts2,⟨hx3,hts3⟩,hts4⟩:=hTQ.ticked HM.out cc
 have HTS:=hid hts1;have HRL:=hid hts4
 clear hTQ hts1 hts4
 go_simp
 refine hK.out _ _ (by obtain⟨q0,q1⟩:=KW.out wq HBQ.out;exact⟨(World.cell?_of_block (a:=⟨r,0,none⟩) (Below.heap_setCell _ _ _ _ (Ne.symm hgr))).trans q0,(World.cell?_of_block (a:=⟨r,1,none⟩) (Below.heap_setCell _ _ _ _ (Ne.symm hgr))).trans q1⟩) ?_
 clear hK K zh
 intro zh
 try simp only[Act.put,zA,zB,zC,zD,zE,zF]
 refine wpAnyH_done (by kernel_rfl) ?_ _
 clear zh
 try simp only[Act.put,zA,zB,zC,zD,zE,zF]
 have FIN:Hid (∃ m,R[j]? =some m∧m.te=e∧RTree B (wq.setCell ⟨gv,j*11+10,none⟩ (.int .i64 cc)) r (.slice (some ⟨gv,0,none⟩) R.length vc) (R.set j {m with tick:=(F.clock:Int)}) {F with L:=F.L.set j {e with tick:=(F.clock:Int)}}∧Turn [gv] W (wq.setCell ⟨gv,j*11+10,none⟩ (.int .i64 cc))∧robL (R.set j {m with tick:=(F.clock:Int)})=robL R):=hid (by
  refine⟨m,HM.out,HME.out,?_,(Turn.of_below HBQ.out).setCell (p:=⟨gv,j*11+10,none⟩) (.inl (by simp)) (.int .i64 cc),?_⟩
  · rw[←HCC.out];have h1:=HTS.out;rw[HME.out] at h1;exact h1
  · rw[←HCC.out];exact HRL.out)
 go_wp2
 exact HKH.out _ _ _ _ _ _ _ _ _ _ _ _ _ _ FIN.out
theorem mv_r27 {Q:Exit→Act→World→Prop} (u1 u2 u3 u4 u5 u6 u7 u8 u9 jA jB jC jD jE jG jH jI jJ jK jL jM jN jO jP jQ jR jS jT jU jV jW jX jY jZ j0 j1 j2 j3 j4 j5 j6 j7 j8 j9 ya yb yc yd ye yf yg yh yi yj yk yl ym yn yo yp yq yr ys yt yu yv yw yx yy yz yA yB yC yD yE yF yG yH yI yJ yK yL yM yN yO yP yQ yR yS yT yU yV yW yX yY yZ y0 y1 y2 y3 y4 y5 y6 y7 y8 y9 Ja Jb Jc Jd Je Jf Jg Jh Ji Jj Jk Jl Jm Jn Jo Jp Jq Jr Js Jt Ju Jv Jw Jx Jy Jz JA JB JC JD JE JF JG JH JI JJ JK JL JM JN JO JP JQ JR JS JT JU JV JW JX JY JZ J0 J1 J2 J3 J4 J5 J6 J7 J8 J9 Ya Yb Yc Yd Ye Yf Yg Yh Yi Yj Yk Yl Ym Yn Yo Yp Yq Yr Ys Yt Yu Yv Yw Yx Yy Yz YA YB YC YD YE YF YG YH YI YJ YK YL YM YN YO YP YQ YR YS YT YU YV YW YX YY YZ Y0 Y1 Y2 Y3 Y4:Value) {B:Nat} {r gv vc lc j:Nat} {la:Option Addr} {l:PN} {e:TE} {R:List RN} {F:Tr} {W:World}
 (hP:∀ c (a a':Act) w,a.defers=a'.defers→Q (.panic c) a w→Q (.panic c) a' w) (hlen:R.length≤1000000) (hll:l.length≤1000) (H:Hid (RTree B W r (.slice (some ⟨gv,0,none⟩) R.length vc) R F)) (HSL:Hid (St.StrsAt W (.slice la l.length lc) l)) (HSRT:Hid (SrtT F.L)) (HJ:Hid (F.L[j]? =some e)) (hen:e.nm=l)
 (HK:∀ (jn jo jp jq jr js jt ju jv jw jx jy jz:Value) (w':World),(∃ m,R[j]? =some m∧m.te=e∧RTree B w' r (.slice (some ⟨gv,0,none⟩) R.length vc) (R.set j {m with tick:=(F.clock:Int)}) {F with L:=F.L.set j {e with tick:=(F.clock:Int)}}∧Turn [gv] W w'∧robL (R.set j {m with tick:=(F.clock:Int)})=robL R)→Q .normal ⟨#[.pointer (some ⟨r,0,none⟩),u1,u2,u3,u4,u5,u6,u7,u8,u9,jA,jB,jC,jD,jE,.slice la l.length lc,jG,jH,jI,jJ,jK,jL,jM,jN,jO,jP,jQ,jR,jS,jT,jU,jV,jW,jX,jY,jZ,j0,j1,j2,j3,j4,j5,j6,j7,j8,j9,ya,yb,yc,yd,ye,yf,yg,yh,yi,yj,yk,yl,ym,yn,yo,yp,yq,yr,ys,yt,yu,yv,yw,yx,yy,yz,yA,yB,yC,yD,yE,yF,yG,yH,yI,yJ,yK,yL,yM,yN,yO,yP,yQ,yR,yS,yT,yU,yV,yW,yX,yY,yZ,y0,y1,y2,y3,y4,y5,y6,y7,y8,y9,Ja,Jb,Jc,Jd,Je,Jf,Jg,Jh,Ji,Jj,Jk,Jl,Jm,Jn,Jo,Jp,Jq,Jr,Js,Jt,Ju,Jv,Jw,Jx,Jy,Jz,JA,JB,JC,JD,JE,JF,JG,JH,JI,JJ,JK,JL,JM,JN,JO,JP,JQ,JR,JS,JT,JU,JV,JW,JX,JY,JZ,jn,jo,jp,jq,jr,js,jt,ju,jv,jw,jx,jy,jz,Yd,Ye,Yf,Yg,Yh,Yi,Yj,Yk,Yl,Ym,Yn,Yo,Yp,Yq,Yr,Ys,Yt,Yu,Yv,Yw,Yx,Yy,Yz,YA,YB,YC,YD,YE,YF,YG,YH,YI,YJ,YK,YL,YM,YN,YO,YP,YQ,YR,YS,YT,YU,YV,YW,YX,YY,YZ,Y0,Y1,Y2,Y3,Y4],[]⟩ w'):
 Code.wp Tryz.prog (mvR 27) Q ⟨#[.pointer (some ⟨r,0,none⟩),u1,u2,u3,u4,u5,u6,u7,u8,u9,jA,jB,jC,jD,jE,.slice la l.length lc,jG,jH,jI,jJ,jK,jL,jM,jN,jO,jP,jQ,jR,jS,jT,jU,jV,jW,jX,jY,jZ,j0,j1,j2,j3,j4,j5,j6,j7,j8,j9,ya,yb,yc,yd,ye,yf,yg,yh,yi,yj,yk,yl,ym,yn,yo,yp,yq,yr,ys,yt,yu,yv,yw,yx,yy,yz,yA,yB,yC,yD,yE,yF,yG,yH,yI,yJ,yK,yL,yM,yN,yO,yP,yQ,yR,yS,yT,yU,yV,yW,yX,yY,yZ,y0,y1,y2,y3,y4,y5,y6,y7,y8,y9,Ja,Jb,Jc,Jd,Je,Jf,Jg,Jh,Ji,Jj,Jk,Jl,Jm,Jn,Jo,Jp,Jq,Jr,Js,Jt,Ju,Jv,Jw,Jx,Jy,Jz,JA,JB,JC,JD,JE,JF,JG,JH,JI,JJ,JK,JL,JM,JN,JO,JP,JQ,JR,JS,JT,JU,JV,JW,JX,JY,JZ,J0,J1,J2,J3,J4,J5,J6,J7,J8,J9,Ya,Yb,Yc,Yd,Ye,Yf,Yg,Yh,Yi,Yj,Yk,Yl,Ym,Yn,Yo,Yp,Yq,Yr,Ys,Yt,Yu,Yv,Yw,Yx,Yy,Yz,YA,YB,YC,YD,YE,YF,YG,YH,YI,YJ,YK,YL,YM,YN,YO,YP,YQ,YR,YS,YT,YU,YV,YW,YX,YY,YZ,Y0,Y1,Y2,Y3,Y4],[]⟩ W:=by
 have HKH:=hid HK
 clear HK
 conv=>arg 2;whnf
 obtain⟨cc,hcc⟩:∃ cc:Int,cc=(F.clock:Int):=⟨_,rfl⟩
 have HCC:=hid hcc
 have KW:Hid (∀ w',Below W.heap.size W w'→w'.cell? ⟨r,0,none⟩=some (.slice (some ⟨gv,0,none⟩) R.length vc)∧w'.cell? ⟨r,1,none⟩=some (.int .i64 cc)):=hid (fun w' hb=>by
  have hx:=(H.out.below hb).book
  exact⟨cell_of_heap hx,(cell_of_heap hx).trans (by rw[hcc];rfl)⟩)
 have hgr:gv≠r:=H.out.off gv (by simp[ob,Value.ownBlock])
 obtain⟨m,hm,hme⟩:=H.out.get HJ.out
 have hjl:j < R.length:=(List.getElem?_eq_some_iff.1 hm).1
 have HM:=hid hm;have HME:=hid hme
 have AT:=rat_any B W.drew r _ R F _ l (HSL.out.below (Below.refl _ _).drew) HSRT.out hlen (H.out.drew)
 rw[(atI_some HSRT.out HJ.out hen).1] at AT
 have AT:=hid AT
 unfold ptr at AT
 clear hcc hm hme hen
 go_upto_region 27 with(fail)
 refine wp_region_held_drew (S:=(fun w':World=>w'.cell? ⟨r,0,none⟩=some (.slice (some ⟨gv,0,none⟩) R.length vc)∧w'.cell? ⟨r,1,none⟩=some (.int .i64 cc))) (by kernel_rfl) (KW.out _ (Below.refl _ _).drew) (fun zh=>?_)
 iterate 10
  first|refine' tj 0 rfl rfl (pz hP) ?_ zh ?_|refine' tj 1 rfl rfl (pz hP) ?_ zh ?_|refine' tj 2 rfl rfl (pz hP) ?_ zh ?_|refine' tj 3 rfl rfl (pz hP) ?_ zh ?_|refine' tj 4 rfl rfl (pz hP) ?_ zh ?_|refine' tj 5 rfl rfl (pz hP) ?_ zh ?_|refine' tj 7 rfl rfl (pz hP) ?_ zh ?_|refine' tj 8 rfl rfl (pz hP) ?_ zh ?_|refine' tj 9 rfl rfl (pz hP) ?_ zh ?_|refine' tj 10 rfl rfl (pz hP) ?_ zh ?_
  rotate_left
  · intro wS hS;obtain⟨k0,k1⟩:=hS;go_simp;try rfl
  try simp only[Act.put,zA,zB,zC,zD,zE,zF]
 refine wpAnyH_ready (rs:=[6]) (by kernel_rfl) (by simp) ?_
 refine AllReadyH.cons rfl (fun K hK=>?_) AllReadyH.nil
 go_simp
 refine AT.out.mono ?_
 rintro ez wq ⟨rfl,hbq⟩
 have HBQ:Hid (Below W.heap.size W wq):=hid ((Below.refl W.heap.size W).drew.trans hbq)
 clear hbq
 go_wp2_with fail
 refine hK.out _ _ (KW.out _ HBQ.out) ?_
 clear hK K zh
 intro zh
 try simp only[Act.put,zA,zB,zC,zD,zE,zF]
 iterate 2
  first|refine' tj 11 rfl rfl (pz hP) ?_ zh ?_|refine' tj 12 rfl rfl (pz hP) ?_ zh ?_
  rotate_left
  · intro wS hS;obtain⟨k0,k1⟩:=hS;go_simp;try rfl
  try simp only[Act.put,zA,zB,zC,zD,zE,zF]
 refine wpAnyH_ready (rs:=[13]) (by kernel_rfl) (by simp) ?_
 refine AllReadyH.cons rfl (fun K hK=>?_) AllReadyH.nil
 have hTQ:=H.out.below HBQ.out
 obtain⟨hts1,hts2,⟨hx3,hts3⟩,hts4⟩:=hTQ.ticked HM.out cc
 have HTS:=hid hts1;have HRL:=hid hts4
 clear hTQ hts1 hts4
 go_simp
 refine hK.out _ _ (by obtain⟨q0,q1⟩:=KW.out wq HBQ.out;exact⟨(World.cell?_of_block (a:=⟨r,0,none⟩) (Below.heap_setCell _ _ _ _ (Ne.symm hgr))).trans q0,(World.cell?_of_block (a:=⟨r,1,none⟩) (Below.heap_setCell _ _ _ _ (Ne.symm hgr))).trans q1⟩) ?_
 clear hK K zh
 intro zh
 try simp only[Act.put,zA,zB,zC,zD,zE,zF]
 refine wpAnyH_done (by kernel_rfl) ?_ _
 clear zh
 try simp only[Act.put,zA,zB,zC,zD,zE,zF]
 have FIN:Hid (∃ m,R[j]? =some m∧m.te=e∧RTree B (wq.setCell ⟨gv,j*11+10,none⟩ (.int .i64 cc)) r (.slice (some ⟨gv,0,none⟩) R.length vc) (R.set j {m with tick:=(F.clock:Int)}) {F with L:=F.L.set j {e with tick:=(F.clock:Int)}}∧Turn [gv] W (wq.setCell ⟨gv,j*11+10,none⟩ (.int .i64 cc))∧robL (R.set j {m with tick:=(F.clock:Int)})=robL R):=hid (by
  refine⟨m,HM.out,HME.out,?_,(Turn.of_below HBQ.out).setCell (p:=⟨gv,j*11+10,none⟩) (.inl (by simp)) (.int .i64 cc),?_⟩
  · rw[←HCC.out];have h1:=HTS.out;rw[HME.out] at h1;exact h1
  · rw[←HCC.out];exact HRL.out)
 go_wp2
 exact HKH.out _ _ _ _ _ _ _ _ _ _ _ _ _ _ FIN.out
end Go.Proofs.YtnmejonfdfdegaaGreatDoor.Sr
