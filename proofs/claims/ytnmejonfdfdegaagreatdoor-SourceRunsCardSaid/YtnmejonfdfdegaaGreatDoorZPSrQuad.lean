import Derived.Test.YtnmejonfdfdegaaGreatDoorZPRtClear
import Derived.Test.YtnmejonfdfdegaaGreatDoorZPRtTwin
import Derived.Test.YtnmejonfdfdegaaGreatDoorZPZz
import Derived.Deep.RegionHeld
import Derived.Deep.MidRow
set_option linter.unusedSimpArgs false
set_option linter.unusedVariables false
set_option maxHeartbeats 40000000
set_option maxRecDepth 100000
namespace Go.Proofs.YtnmejonfdfdegaaGreatDoor.Sr
open Go.RowKit Go.Maps Go.WideMaps Rf Go.Proofs.YtnmejonfdfdegaaGreatDoor.Nm St
structure Quad (B:Nat) (w:World) (r:Nat) (T:Tr) (q:Nat) (v:Value) (R:List RN) (r2:Nat) (U:Tr) (q2:Nat) (v2:Value) (R2:List RN):Prop where
 a:Pr B w r T q v R T.bare
 b:Pr B w r2 U q2 v2 R2 U.bare
 tt:∀ x∈blkT r T,x ∉ blkT r2 U
 tf:∀ x∈blkT r T,x ∉ rblk q2 v2 R2
 ft:∀ x∈blkT r2 U,x ∉ rblk q v R
 ff:∀ x∈q::ob v,x ∉ rblk q2 v2 R2
 gg:∀ x∈q2::ob v2,x ∉ rblk q v R
section
variable {B:Nat} {w w':World} {r q r2 q2:Nat} {T T' U:Tr} {v v' v2:Value} {R R' R2:List RN}
theorem Quad.symm (h:Quad B w r T q v R r2 U q2 v2 R2):Quad B w r2 U q2 v2 R2 r T q v R:=
 ⟨h.b,h.a,fun x hx hy=>h.tt x hy hx,h.ft,h.tf,h.gg,h.ff⟩
theorem Quad.below (h:Quad B w r T q v R r2 U q2 v2 R2) (hb:Below w.heap.size w w'):Quad B w' r T q v R r2 U q2 v2 R2:=
 ⟨h.a.below hb,h.b.below hb,h.tt,h.tf,h.ft,h.ff,h.gg⟩
theorem Dbl.blk {F':Tr} (d:Dbl B w r T q v R w' T' v' R' F'):∀ b∈blkT r T',b∈blkT r T∨w.heap.size≤b:=by
 intro b hb
 rcases List.mem_cons.1 hb with rfl|hb
 · exact .inl (List.mem_cons_self ..)
 · exact(d.own b hb).imp (List.mem_cons_of_mem _) id
theorem Quad.dbl (h:Quad B w r T q v R r2 U q2 v2 R2) (d:Dbl B w r T q v R w' T' v' R' T'.bare):Quad B w' r T' q v' R' r2 U q2 v2 R2:=by
 have offT:∀ x∈blkT r2 U,x ∉ blkT r T++(q::ob v):=fun x hx hc=>by
  rcases List.mem_append.1 hc with hc|hc
  · exact h.tt x hc hx
  · exact h.ft x hx (rsub x hc)
 have offR:∀ x∈rblk q2 v2 R2,x ∉ blkT r T++(q::ob v):=fun x hx hc=>by
  rcases List.mem_append.1 hc with hc|hc
  · exact h.tf x hc hx
  · exact h.ff x hc hx
 have ltU:=h.b.t.lt
 have ltR:=h.b.f.lt
 refine⟨d.p,⟨h.b.t.kept d.turn.size (fun x hx=>d.turn.block x (ltU x hx) (offT x hx)),h.b.f.kept d.turn.size (fun x hx=>d.turn.block x (ltR x hx) (offR x hx)),h.b.ap⟩,fun x hx hy=>?_,fun x hx hy=>?_,fun x hx hy=>?_,fun x hx hy=>?_,fun x hx hy=>?_⟩
 · rcases d.blk x hx with h1|h1
   · exact h.tt x h1 hy
   · have:=ltU x hy;omega
 · rcases d.blk x hx with h1|h1
   · exact h.tf x h1 hy
   · have:=ltR x hy;omega
 · rcases d.rb x hy with h1|h1
   · exact h.ft x hx h1
   · have:=ltU x hx;omega
 · rcases List.mem_cons.1 hx with rfl|hx
   · exact h.ff _ (List.mem_cons_self ..) hy
   · rcases d.rv x hx with h1|h1
     · exact h.ff x (List.mem_cons_of_mem _ h1) hy
     · have:=ltR x hy;omega
 · rcases d.rb x hy with h1|h1
   · exact h.gg x hx h1
   · have:=ltR x (rsub x hx);omega
theorem Quad.twin {w1:World} (h:Pr B w r T q v R T.bare) (ht:TreeAt w.heap.size w1 r2 U) (hu:U.bare=T.bare) (b1:Below w.heap.size w w1) (hf:RTree B w' q2 v2 R2 T.bare) (hq:∀ b∈q2::ob v2,w1.heap.size≤b) (hs:∀ b∈robL R2,b∈robL R∨w1.heap.size≤b) (b2:Below w1.heap.size w1 w'):
 Quad B w' r T q v R r2 U q2 v2 R2:=by
 have hsz:=b1.size
 have l1:=ht.lt
 have g1:=ht.base
 have lT:=h.t.lt
 have lR:=h.f.lt
 have cs:∀ x∈rblk q2 v2 R2,w1.heap.size≤x∨x∈robL R:=fun x hx=>by
  rw[rblk,List.mem_cons,List.mem_append] at hx
  rcases hx with rfl|hx|hx
  · exact .inl (hq _ (List.mem_cons_self ..))
  · exact .inl (hq x (List.mem_cons_of_mem _ hx))
  · exact(hs x hx).symm
 have inR:∀ x∈robL R,x∈rblk q v R:=fun x hx=>by
  rw[rblk,List.mem_cons,List.mem_append];exact .inr (.inr hx)
 refine⟨(h.below b1).below b2,⟨(ht.mono h.size).below b2,by rw[hu];exact hf,fun x hx hy=>?_⟩,fun x hx hy=>?_,fun x hx hy=>?_,fun x hx hy=>?_,fun x hx hy=>?_,fun x hx hy=>?_⟩
 · have h1:=l1 x hx;have h2:=g1 x hx
   rcases cs x hy with h3|h3
   · omega
   · have:=lR x (inR x h3);omega
 · have h1:=lT x hx;have h2:=g1 x hy;omega
 · have h1:=lT x hx
   rcases cs x hy with h3|h3
   · omega
   · exact h.ap x hx (inR x h3)
 · have h1:=g1 x hx;have h2:=lR x hy;omega
 · have h1:=lR x (rsub x hx)
   rcases cs x hy with h3|h3
   · omega
   · have h4:=h.f.apart x h3
     rcases List.mem_cons.1 hx with rfl|hx
     · exact h4.2.1 rfl
     · exact h4.2.2 hx
 · have h1:=hq x hx;have h2:=lR x hy;omega
end
end Go.Proofs.YtnmejonfdfdegaaGreatDoor.Sr
namespace Go.Proofs.YtnmejonfdfdegaaGreatDoor.Sr
open Go.RowKit Go.Maps Go.WideMaps Rf Go.Proofs.YtnmejonfdfdegaaGreatDoor.Nm St
open Lib (hid)
theorem do_arm0 {Q:Exit→Act→World→Prop} (u2 u3 u4 u6 jp jq jr js jt ju jv jw jx jy jz jA jB jC jD jE jF jG jH jI jJ jK jL jM jN jO jP jQ jR jS jT jU jV jW jX jY jZ j0 j1 j2 j3 j4 j5 j6 j7 j8 j9 ya yb yc yd ye yf yg yh yi yj yk yl ym yn yo yp yq yr ys yt yu yv yw yx yy yz yA yB yC yD yE yF yG yH yI yJ yK yL yM yN yO yP yQ yR yS yT yU yV yW yX yY yZ y0 y1 y2 y3 y4 y5 y6 y7 y8 y9 Ja Jb Jc Jd Je Jf Jg Jh Ji Jj Jk Jl Jm Jn Jo Jp Jq Jr Js Jt Ju Jv Jw Jx Jy Jz JA JB JC JD JE JF JG JH JI JJ JK JL JM JN JO JP JQ JR JS JT JU JV JW JX JY JZ J0 J1 J2 J3 J4 J5 J6 J7 J8 J9 Ya Yb Yc Yd Ye Yf Yg Yh Yi Yj Yk Yl Ym Yn Yo Yp Yq Yr Ys Yt Yu Yv Yw Yx Yy Yz YA YB YC YD YE:Value) {B k:Nat} {w0 w:World} {r q xb ab bb:Nat} {T:Tr} {v u v1:Value} {R:List RN} {who:Int} {path more:List UInt8} {A:XA}
 (hP:∀ c (a a':Act) w,a.defers=a'.defers→Q (.panic c) a w→Q (.panic c) a' w) (H:Hid (Pr B w0 r T q v R T.bare)) (G:Hid (Bd T k)) (hk:k≤900) (HBL:Hid (Below w0.heap.size w0 w)) (HTB:Hid (∀ w':World,Below B w0 w'→Tabs w')) (HXB:Hid (w.heap[xb]? =some (.cells (Stp.cells ⟨0,who,path,more,A,u⟩).toArray 69))) (HAB:Hid (w.heap[ab]? =some (.cells (A.cells v1).toArray 79))) (HBB:Hid (w.heap[bb]? =some (.cells (A.cells u).toArray 67)))
 (HN:Hid (w0.heap.size≤xb∧w0.heap.size≤ab∧w0.heap.size≤bb)) (hx1:xb≠bb) (hx2:ab≠bb) (HV:Hid (XsAt w v1 A.xs)) (HVN:Hid (∀ b∈xob A.xs v1,w0.heap.size≤b∧b≠bb)) (HU:Hid (XsAt w0 u A.xs)) (HUB:Hid (∀ b∈xob A.xs u,b < B)) (hp:path.length≤140737488351232) (hm:more.length≤140737488351232) (ht:A.target.length≤140737488351232)
 (HK:∀ (ja jb jc jd je jf jg jh ji jj jk jl jm jn jo:Value) (w':World),DoQ B k w0 w r T q v R bb w'→Q .normal ⟨#[.pointer (some ⟨r,0,none⟩),.pointer (some ⟨q,0,none⟩),u2,u3,u4,.pointer (some ⟨xb,0,none⟩),u6,.pointer (some ⟨ab,0,none⟩),.pointer (some ⟨bb,0,none⟩),.bool true,jp,jq,jr,js,jt,ju,jv,jw,jx,jy,jz,.int .i64 0,ja,jb,jc,jd,je,jf,jg,jh,ji,jj,jk,jl,jm,jn,jo,jP,jQ,jR,jS,jT,jU,jV,jW,jX,jY,jZ,j0,j1,j2,j3,j4,j5,j6,j7,j8,j9,ya,yb,yc,yd,ye,yf,yg,yh,yi,yj,yk,yl,ym,yn,yo,yp,yq,yr,ys,yt,yu,yv,yw,yx,yy,yz,yA,yB,yC,yD,yE,yF,yG,yH,yI,yJ,yK,yL,yM,yN,yO,yP,yQ,yR,yS,yT,yU,yV,yW,yX,yY,yZ,y0,y1,y2,y3,y4,y5,y6,y7,y8,y9,Ja,Jb,Jc,Jd,Je,Jf,Jg,Jh,Ji,Jj,Jk,Jl,Jm,Jn,Jo,Jp,Jq,Jr,Js,Jt,Ju,Jv,Jw,Jx,Jy,Jz,JA,JB,JC,JD,JE,JF,JG,JH,JI,JJ,JK,JL,JM,JN,JO,JP,JQ,JR,JS,JT,JU,JV,JW,JX,JY,JZ,J0,J1,J2,J3,J4,J5,J6,J7,J8,J9,Ya,Yb,Yc,Yd,Ye,Yf,Yg,Yh,Yi,Yj,Yk,Yl,Ym,Yn,Yo,Yp,Yq,Yr,Ys,Yt,Yu,Yv,Yw,Yx,Yy,Yz,YA,YB,YC,YD,YE],[]⟩ w'):
 Code.wp Tryz.prog (doB 0) Q ⟨#[.pointer (some ⟨r,0,none⟩),.pointer (some ⟨q,0,none⟩),u2,u3,u4,.pointer (some ⟨xb,0,none⟩),u6,.pointer (some ⟨ab,0,none⟩),.pointer (some ⟨bb,0,none⟩),.bool false,jp,jq,jr,js,jt,ju,jv,jw,jx,jy,jz,.int .i64 0,jA,jB,jC,jD,jE,jF,jG,jH,jI,jJ,jK,jL,jM,jN,jO,jP,jQ,jR,jS,jT,jU,jV,jW,jX,jY,jZ,j0,j1,j2,j3,j4,j5,j6,j7,j8,j9,ya,yb,yc,yd,ye,yf,yg,yh,yi,yj,yk,yl,ym,yn,yo,yp,yq,yr,ys,yt,yu,yv,yw,yx,yy,yz,yA,yB,yC,yD,yE,yF,yG,yH,yI,yJ,yK,yL,yM,yN,yO,yP,yQ,yR,yS,yT,yU,yV,yW,yX,yY,yZ,y0,y1,y2,y3,y4,y5,y6,y7,y8,y9,Ja,Jb,Jc,Jd,Je,Jf,Jg,Jh,Ji,Jj,Jk,Jl,Jm,Jn,Jo,Jp,Jq,Jr,Js,Jt,Ju,Jv,Jw,Jx,Jy,Jz,JA,JB,JC,JD,JE,JF,JG,JH,JI,JJ,JK,JL,JM,JN,JO,JP,JQ,JR,JS,JT,JU,JV,JW,JX,JY,JZ,J0,J1,J2,J3,J4,J5,J6,J7,J8,J9,Ya,Yb,Yc,Yd,Ye,Yf,Yg,Yh,Yi,Yj,Yk,Yl,Ym,Yn,Yo,Yp,Yq,Yr,Ys,Yt,Yu,Yv,Yw,Yx,Yy,Yz,YA,YB,YC,YD,YE],[]⟩ w:=by
 have HKH:=hid HK
 clear HK
 conv=>arg 2;whnf
 have c3:w.cell? ⟨xb,3,none⟩=some (.string ⟨more.toArray⟩):=cell_of_heap HXB.out
 have hx1':bb≠xb:=fun h=>hx1 h.symm
 have f0:w.frozen? ⟨bb,0,none⟩=false:=frozen_of_heap HBB.out
 have d0:w.cell? ⟨bb,0,none⟩=some (.int .u8 (A.node:Int)):=cell_of_heap HBB.out
 have hq1:=setCell_heap w bb 0 (.int .u8 2) _ _ HBB.out
 have f5:(w.setCell ⟨bb,0,none⟩ (.int .u8 2)).frozen? ⟨bb,5,none⟩=false:=frozen_of_heap hq1
 have d5:(w.setCell ⟨bb,0,none⟩ (.int .u8 2)).cell? ⟨bb,5,none⟩=some (.string ⟨A.target.toArray⟩):=cell_of_heap hq1
 have c3':(w.setCell ⟨bb,0,none⟩ (.int .u8 2)).cell? ⟨xb,3,none⟩=some (.string ⟨more.toArray⟩):=(World.cell?_of_block (Below.heap_setCell _ _ _ _ hx1)).trans c3
 obtain⟨w2,hw2⟩:∃ w2,w2=(w.setCell ⟨bb,0,none⟩ (.int .u8 2)).setCell ⟨bb,5,none⟩ (.string ⟨#[]⟩):=⟨_,rfl⟩
 have HBB2:Hid (w2.heap[bb]? =some (.cells (XA.cells (asFold A) u).toArray 67)):=hid (by rw[hw2,setCell_heap _ _ _ _ _ _ hq1];rfl)
 have HOT:Hid (∀ b,b≠bb→w2.heap[b]? =w.heap[b]?):=hid (fun b hb=>by rw[hw2];exact(Below.heap_setCell _ _ _ _ hb).trans (Below.heap_setCell _ _ _ _ hb))
 have HS2:Hid (w2.heap.size=w.heap.size):=hid (by rw[hw2,World.size_setCell,World.size_setCell])
 have HB02:Hid (Below w0.heap.size w0 w2):=hid (by rw[hw2];exact(HBL.out.setCell HN.out.2.2 _).setCell HN.out.2.2 _)
 have HW2:=hid hw2
 clear hw2 hq1
 go_wp2_with fail
 rw[←HW2.out]
 clear HW2 c3 c3' f0 f5 d0 d5
 have HZ:Hid (B≤w2.drew.heap.size):=hid (Nat.le_trans H.out.size HB02.out.size)
 have HBW:Hid (B≤w0.heap.size):=hid H.out.size
 have HT2:=hid (H.out.t.below HB02.out.drew)
 have KS:Hid (∀ w':World,(∀ b,w0.heap.size≤b→b < w2.drew.heap.size→w'.heap[b]? =w2.drew.heap[b]?)→(w'.cell? ⟨xb,2,none⟩=some (.string ⟨path.toArray⟩)∧w'.cell? ⟨xb,3,none⟩=some (.string ⟨more.toArray⟩)∧w'.cell? ⟨xb,9,none⟩=some (.string ⟨A.target.toArray⟩)∧w'.rangeAt xb 4 (A.cells u)∧w'.rangeAt ab 0 (A.cells v1)∧w'.rangeAt bb 0 (XA.cells (asFold A) u))):=hid (fun w' hw=>by
  have hxl:xb < w2.heap.size:=by rw[HS2.out];exact lt_of_heap HXB.out
  have hal:ab < w2.heap.size:=by rw[HS2.out];exact lt_of_heap HAB.out
  have h1:=((hw xb HN.out.1 hxl).trans (HOT.out xb hx1)).trans HXB.out
  have h2:=((hw ab HN.out.2.1 hal).trans (HOT.out ab hx2)).trans HAB.out
  have h3:=(hw bb HN.out.2.2 (lt_of_heap HBB2.out)).trans HBB2.out
  refine⟨cell_of_heap h1,cell_of_heap h1,cell_of_heap h1,fun j z hz=>?_,fun j z hz=>?_,fun j z hz=>?_⟩
  · rw[cell_of_heap h1,List.getElem?_toArray,Nat.add_comm 4 j];exact hz
  · rw[cell_of_heap h2,List.getElem?_toArray,Nat.zero_add];exact hz
  · rw[cell_of_heap h3,List.getElem?_toArray,Nat.zero_add];exact hz)
 have HV2:Hid (XsAt w2.drew v1 A.xs):=hid (HV.out.kept (by show w.heap.size≤w2.heap.size;rw[HS2.out];exact Nat.le_refl _) (fun b hb=>HOT.out b (HVN.out b hb).2))
 have HVR:Hid (∀ b∈xob A.xs v1,b≠r):=hid (fun b hb h=>by have h1:=(HVN.out b hb).1;have h2:=H.out.lt r (by simp);omega)
 have HUR:Hid (∀ b∈xob A.xs u,b≠q):=hid (fun b hb h=>by have h1:=HUB.out b hb;have h2:=H.out.f.base;omega)
 refine wp_region_held_drew (S:=(fun w':World=>w'.cell? ⟨xb,2,none⟩=some (.string ⟨path.toArray⟩)∧w'.cell? ⟨xb,3,none⟩=some (.string ⟨more.toArray⟩)∧w'.cell? ⟨xb,9,none⟩=some (.string ⟨A.target.toArray⟩)∧w'.rangeAt xb 4 (A.cells u)∧w'.rangeAt ab 0 (A.cells v1)∧w'.rangeAt bb 0 (XA.cells (asFold A) u))) (by kernel_rfl) (KS.out w2.drew (fun _ _ _=>rfl)) (fun zh=>?_)
 iterate 3
  first|refine' tj 0 rfl rfl (pz hP) ?_ zh ?_|refine' tj 1 rfl rfl (pz hP) ?_ zh ?_|refine' tj 2 rfl rfl (pz hP) ?_ zh ?_
  rotate_left
  · intro wS hS;obtain⟨k0,k1,k2,_⟩:=hS;go_simp;try rfl
  try simp only[Act.put,zA,zB,zC,zD,zE,zF]
 refine' wpAnyH_take (i:=3) (v:=_) rfl (by kernel_rfl) (by kernel_rfl) (by kernel_rfl) (pz hP) (yieldsIf_load_mid (by rfl) _ _ rfl ab 0 rfl (A.cells v1) _ ?d03S ?d03u ?d03d ?d03i) zh ?d03x
 case d03S=>intro wS hS;exact hS.2.2.2.2.1
 case d03u=>exact Tryz.underlying79
 case d03d=>rfl
 case d03i=>exact (infoAt A v1)
 try simp only[Act.put,zA,zB,zC,zD,zE,zF]
 iterate 3
  first|refine' tj 5 rfl rfl (pz hP) ?_ zh ?_|refine' tj 6 rfl rfl (pz hP) ?_ zh ?_|refine' tj 7 rfl rfl (pz hP) ?_ zh ?_
  rotate_left
  · intro wS hS;obtain⟨k0,k1,k2,_⟩:=hS;go_simp;try rfl
  try simp only[Act.put,zA,zB,zC,zD,zE,zF]
 refine' wpAnyH_take (i:=8) (v:=_) rfl (by kernel_rfl) (by kernel_rfl) (by kernel_rfl) (pz hP) (yieldsIf_load_mid (by rfl) _ _ rfl bb 0 rfl (XA.cells (asFold A) u) _ ?d07S ?d07u ?d07d ?d07i) zh ?d07x
 case d07S=>intro wS hS;exact hS.2.2.2.2.2
 case d07u=>exact Tryz.underlying67
 case d07d=>rfl
 case d07i=>exact (infoAtR (asFold A) u)
 try simp only[Act.put,zA,zB,zC,zD,zE,zF]
 refine wpAnyH_ready (rs:=[4]) (by kernel_rfl) (by simp) ?_
 refine AllReadyH.cons rfl (fun K hK=>?_) AllReadyH.nil
 have PC:=pcall0 B w2.drew r T k who path more A u v1 hp HV2.out HVR.out G.out (by omega) HZ.out HT2.out
 unfold ptr at PC
 go_simp
 refine PC.mono ?_
 rintro ex w5 ⟨rfl,T',he,hg5,hbr⟩
 have HE:=hid he;have HG5:=hid hg5;have HBR:=hid hbr
 clear he hg5 hbr PC
 have HB5:Hid (Below B w0 w5):=hid ((HB02.out.drew.mono HBW.out).trans (HE.out.below HT2.out HZ.out))
 have KS5:=hid (KS.out w5 (fun b h1 h2=>eff_far H.out HE.out h1 h2))
 have HF5:=hid ((H.out.below HB02.out.drew).eff HE.out).f
 go_wp2_with fail
 refine hK.out _ _ KS5.out ?_
 clear hK K zh
 intro zh
 try simp only[Act.put,zA,zB,zC,zD,zE,zF]
 refine wpAnyH_ready (rs:=[9]) (by kernel_rfl) (by simp) ?_
 refine AllReadyH.cons rfl (fun K hK=>?_) AllReadyH.nil
 have QC:=qcall0 B w5 q v R T.bare k who path more A u u hp (HU.out.kept HB5.out.size (fun b hb=>HB5.out.block b (HUB.out b hb))) HUR.out (HTB.out w5 HB5.out) (goodF_of H.out.t G.out.b.good) (by omega) (by have:=G.out.clk;show T.clock≤_;omega) (Nat.le_trans HZ.out HE.out.turn.size) HF5.out
 unfold ptr at QC
 go_simp
 refine QC.mono ?_
 intro ex w6 hq
 have HQ:=hid hq
 obtain⟨rfl,v6,R6,hrt,hru,hro,hrv⟩:=hq
 rw[runE_bare]
 have KS6:=hid (KS.out w6 (fun b h1 h2=>(hru.block b (Nat.lt_of_lt_of_le h2 HE.out.turn.size) (fun hc=>H.out.far h1 (List.mem_append_right _ hc))).trans (eff_far H.out HE.out h1 h2)))
 clear hrt hru hro hrv QC
 go_wp2_with fail
 refine hK.out _ _ KS6.out ?_
 clear hK K zh
 intro zh
 try simp only[Act.put,zA,zB,zC,zD,zE,zF]
 iterate 2
  first|refine' tj 10 rfl rfl (pz hP) ?_ zh ?_|refine' tj 11 rfl rfl (pz hP) ?_ zh ?_
  rotate_left
  · intro wS hS;obtain⟨k0,k1,k2,_⟩:=hS;go_simp;try rfl
  try simp only[Act.put,zA,zB,zC,zD,zE,zF]
 refine wpAnyH_done (by kernel_rfl) ?_ _
 clear zh
 try simp only[Act.put,zA,zB,zC,zD,zE,zF]
 go_wp2_with fail
 refine HKH.out _ _ _ _ _ _ _ _ _ _ _ _ _ _ _ w6 ?_
 exact doq_mk H.out HB02.out.drew (fun b h1 h2 h3=>HOT.out b h3) (by show w.heap.size≤w2.heap.size;rw[HS2.out];exact Nat.le_refl _) HE.out HG5.out HBR.out HQ.out
theorem do_arm1 {Q:Exit→Act→World→Prop} (u2 u3 u4 u6 jv jw jx jy jz jA jB jC jD jE jF jG jH jI jJ jK jL jM jN jO jP jQ jR jS jT jU jV jW jX jY jZ j0 j1 j2 j3 j4 j5 j6 j7 j8 j9 ya yb yc yd ye yf yg yh yi yj yk yl ym yn yo yp yq yr ys yt yu yv yw yx yy yz yA yB yC yD yE yF yG yH yI yJ yK yL yM yN yO yP yQ yR yS yT yU yV yW yX yY yZ y0 y1 y2 y3 y4 y5 y6 y7 y8 y9 Ja Jb Jc Jd Je Jf Jg Jh Ji Jj Jk Jl Jm Jn Jo Jp Jq Jr Js Jt Ju Jv Jw Jx Jy Jz JA JB JC JD JE JF JG JH JI JJ JK JL JM JN JO JP JQ JR JS JT JU JV JW JX JY JZ J0 J1 J2 J3 J4 J5 J6 J7 J8 J9 Ya Yb Yc Yd Ye Yf Yg Yh Yi Yj Yk Yl Ym Yn Yo Yp Yq Yr Ys Yt Yu Yv Yw Yx Yy Yz YA YB YC YD YE YF YG YH YI YJ YK:Value) {B k:Nat} {w0 w:World} {r q xb ab bb:Nat} {T:Tr} {v u v1:Value} {R:List RN} {who:Int} {path more:List UInt8} {A:XA}
 (hP:∀ c (a a':Act) w,a.defers=a'.defers→Q (.panic c) a w→Q (.panic c) a' w) (H:Hid (Pr B w0 r T q v R T.bare)) (G:Hid (Bd T k)) (hk:k≤900) (HBL:Hid (Below w0.heap.size w0 w)) (HTB:Hid (∀ w':World,Below B w0 w'→Tabs w')) (HXB:Hid (w.heap[xb]? =some (.cells (Stp.cells ⟨1,who,path,more,A,u⟩).toArray 69))) (HAB:Hid (w.heap[ab]? =some (.cells (A.cells v1).toArray 79))) (HBB:Hid (w.heap[bb]? =some (.cells (A.cells u).toArray 67)))
 (HN:Hid (w0.heap.size≤xb∧w0.heap.size≤ab∧w0.heap.size≤bb)) (hx1:xb≠bb) (hx2:ab≠bb) (HV:Hid (XsAt w v1 A.xs)) (HVN:Hid (∀ b∈xob A.xs v1,w0.heap.size≤b∧b≠bb)) (HU:Hid (XsAt w0 u A.xs)) (HUB:Hid (∀ b∈xob A.xs u,b < B)) (hp:path.length≤140737488351232) (hm:more.length≤140737488351232) (ht:A.target.length≤140737488351232)
 (HK:∀ (ja jb jc jd je jf jg jh ji jj jk jl jm jn jo jp jq jr js jt ju:Value) (w':World),DoQ B k w0 w r T q v R bb w'→Q .normal ⟨#[.pointer (some ⟨r,0,none⟩),.pointer (some ⟨q,0,none⟩),u2,u3,u4,.pointer (some ⟨xb,0,none⟩),u6,.pointer (some ⟨ab,0,none⟩),.pointer (some ⟨bb,0,none⟩),.bool true,jv,jw,jx,jy,jz,jA,jB,jC,jD,jE,jF,.int .i64 1,ja,jb,jI,jJ,jK,jL,jM,jN,jO,jP,jQ,jR,jS,jT,jU,jc,jd,je,jf,jg,jh,ji,jj,jk,jl,jm,jn,jo,jp,jq,jr,js,jt,ju,ye,yf,yg,yh,yi,yj,yk,yl,ym,yn,yo,yp,yq,yr,ys,yt,yu,yv,yw,yx,yy,yz,yA,yB,yC,yD,yE,yF,yG,yH,yI,yJ,yK,yL,yM,yN,yO,yP,yQ,yR,yS,yT,yU,yV,yW,yX,yY,yZ,y0,y1,y2,y3,y4,y5,y6,y7,y8,y9,Ja,Jb,Jc,Jd,Je,Jf,Jg,Jh,Ji,Jj,Jk,Jl,Jm,Jn,Jo,Jp,Jq,Jr,Js,Jt,Ju,Jv,Jw,Jx,Jy,Jz,JA,JB,JC,JD,JE,JF,JG,JH,JI,JJ,JK,JL,JM,JN,JO,JP,JQ,JR,JS,JT,JU,JV,JW,JX,JY,JZ,J0,J1,J2,J3,J4,J5,J6,J7,J8,J9,Ya,Yb,Yc,Yd,Ye,Yf,Yg,Yh,Yi,Yj,Yk,Yl,Ym,Yn,Yo,Yp,Yq,Yr,Ys,Yt,Yu,Yv,Yw,Yx,Yy,Yz,YA,YB,YC,YD,YE,YF,YG,YH,YI,YJ,YK],[]⟩ w'):
 Code.wp Tryz.prog (doB 0) Q ⟨#[.pointer (some ⟨r,0,none⟩),.pointer (some ⟨q,0,none⟩),u2,u3,u4,.pointer (some ⟨xb,0,none⟩),u6,.pointer (some ⟨ab,0,none⟩),.pointer (some ⟨bb,0,none⟩),.bool false,jv,jw,jx,jy,jz,jA,jB,jC,jD,jE,jF,.int .i64 1,jG,jH,jI,jJ,jK,jL,jM,jN,jO,jP,jQ,jR,jS,jT,jU,jV,jW,jX,jY,jZ,j0,j1,j2,j3,j4,j5,j6,j7,j8,j9,ya,yb,yc,yd,ye,yf,yg,yh,yi,yj,yk,yl,ym,yn,yo,yp,yq,yr,ys,yt,yu,yv,yw,yx,yy,yz,yA,yB,yC,yD,yE,yF,yG,yH,yI,yJ,yK,yL,yM,yN,yO,yP,yQ,yR,yS,yT,yU,yV,yW,yX,yY,yZ,y0,y1,y2,y3,y4,y5,y6,y7,y8,y9,Ja,Jb,Jc,Jd,Je,Jf,Jg,Jh,Ji,Jj,Jk,Jl,Jm,Jn,Jo,Jp,Jq,Jr,Js,Jt,Ju,Jv,Jw,Jx,Jy,Jz,JA,JB,JC,JD,JE,JF,JG,JH,JI,JJ,JK,JL,JM,JN,JO,JP,JQ,JR,JS,JT,JU,JV,JW,JX,JY,JZ,J0,J1,J2,J3,J4,J5,J6,J7,J8,J9,Ya,Yb,Yc,Yd,Ye,Yf,Yg,Yh,Yi,Yj,Yk,Yl,Ym,Yn,Yo,Yp,Yq,Yr,Ys,Yt,Yu,Yv,Yw,Yx,Yy,Yz,YA,YB,YC,YD,YE,YF,YG,YH,YI,YJ,YK],[]⟩ w:=by
 have HKH:=hid HK
 clear HK
 conv=>arg 2;whnf
 have c3:w.cell? ⟨xb,3,none⟩=some (.string ⟨more.toArray⟩):=cell_of_heap HXB.out
 have hx1':bb≠xb:=fun h=>hx1 h.symm
 have f0:w.frozen? ⟨bb,0,none⟩=false:=frozen_of_heap HBB.out
 have d0:w.cell? ⟨bb,0,none⟩=some (.int .u8 (A.node:Int)):=cell_of_heap HBB.out
 have hq1:=setCell_heap w bb 0 (.int .u8 1) _ _ HBB.out
 have f5:(w.setCell ⟨bb,0,none⟩ (.int .u8 1)).frozen? ⟨bb,5,none⟩=false:=frozen_of_heap hq1
 have d5:(w.setCell ⟨bb,0,none⟩ (.int .u8 1)).cell? ⟨bb,5,none⟩=some (.string ⟨A.target.toArray⟩):=cell_of_heap hq1
 have c3':(w.setCell ⟨bb,0,none⟩ (.int .u8 1)).cell? ⟨xb,3,none⟩=some (.string ⟨more.toArray⟩):=(World.cell?_of_block (Below.heap_setCell _ _ _ _ hx1)).trans c3
 obtain⟨w2,hw2⟩:∃ w2,w2=(w.setCell ⟨bb,0,none⟩ (.int .u8 1)).setCell ⟨bb,5,none⟩ (.string ⟨#[]⟩):=⟨_,rfl⟩
 have HBB2:Hid (w2.heap[bb]? =some (.cells (XA.cells (asFile A) u).toArray 67)):=hid (by rw[hw2,setCell_heap _ _ _ _ _ _ hq1];rfl)
 have HOT:Hid (∀ b,b≠bb→w2.heap[b]? =w.heap[b]?):=hid (fun b hb=>by rw[hw2];exact(Below.heap_setCell _ _ _ _ hb).trans (Below.heap_setCell _ _ _ _ hb))
 have HS2:Hid (w2.heap.size=w.heap.size):=hid (by rw[hw2,World.size_setCell,World.size_setCell])
 have HB02:Hid (Below w0.heap.size w0 w2):=hid (by rw[hw2];exact(HBL.out.setCell HN.out.2.2 _).setCell HN.out.2.2 _)
 have HW2:=hid hw2
 clear hw2 hq1
 go_wp2_with fail
 rw[←HW2.out]
 clear HW2 c3 c3' f0 f5 d0 d5
 have HZ:Hid (B≤w2.drew.heap.size):=hid (Nat.le_trans H.out.size HB02.out.size)
 have HBW:Hid (B≤w0.heap.size):=hid H.out.size
 have HT2:=hid (H.out.t.below HB02.out.drew)
 have KS:Hid (∀ w':World,(∀ b,w0.heap.size≤b→b < w2.drew.heap.size→w'.heap[b]? =w2.drew.heap[b]?)→(w'.cell? ⟨xb,2,none⟩=some (.string ⟨path.toArray⟩)∧w'.cell? ⟨xb,3,none⟩=some (.string ⟨more.toArray⟩)∧w'.cell? ⟨xb,9,none⟩=some (.string ⟨A.target.toArray⟩)∧w'.rangeAt xb 4 (A.cells u)∧w'.rangeAt ab 0 (A.cells v1)∧w'.rangeAt bb 0 (XA.cells (asFile A) u))):=hid (fun w' hw=>by
  have hxl:xb < w2.heap.size:=by rw[HS2.out];exact lt_of_heap HXB.out
  have hal:ab < w2.heap.size:=by rw[HS2.out];exact lt_of_heap HAB.out
  have h1:=((hw xb HN.out.1 hxl).trans (HOT.out xb hx1)).trans HXB.out
  have h2:=((hw ab HN.out.2.1 hal).trans (HOT.out ab hx2)).trans HAB.out
  have h3:=(hw bb HN.out.2.2 (lt_of_heap HBB2.out)).trans HBB2.out
  refine⟨cell_of_heap h1,cell_of_heap h1,cell_of_heap h1,fun j z hz=>?_,fun j z hz=>?_,fun j z hz=>?_⟩
  · rw[cell_of_heap h1,List.getElem?_toArray,Nat.add_comm 4 j];exact hz
  · rw[cell_of_heap h2,List.getElem?_toArray,Nat.zero_add];exact hz
  · rw[cell_of_heap h3,List.getElem?_toArray,Nat.zero_add];exact hz)
 have HV2:Hid (XsAt w2.drew v1 A.xs):=hid (HV.out.kept (by show w.heap.size≤w2.heap.size;rw[HS2.out];exact Nat.le_refl _) (fun b hb=>HOT.out b (HVN.out b hb).2))
 have HVR:Hid (∀ b∈xob A.xs v1,b≠r):=hid (fun b hb h=>by have h1:=(HVN.out b hb).1;have h2:=H.out.lt r (by simp);omega)
 have HUR:Hid (∀ b∈xob A.xs u,b≠q):=hid (fun b hb h=>by have h1:=HUB.out b hb;have h2:=H.out.f.base;omega)
 refine wp_region_held_drew (S:=(fun w':World=>w'.cell? ⟨xb,2,none⟩=some (.string ⟨path.toArray⟩)∧w'.cell? ⟨xb,3,none⟩=some (.string ⟨more.toArray⟩)∧w'.cell? ⟨xb,9,none⟩=some (.string ⟨A.target.toArray⟩)∧w'.rangeAt xb 4 (A.cells u)∧w'.rangeAt ab 0 (A.cells v1)∧w'.rangeAt bb 0 (XA.cells (asFile A) u))) (by kernel_rfl) (KS.out w2.drew (fun _ _ _=>rfl)) (fun zh=>?_)
 iterate 5
  first|refine' tj 0 rfl rfl (pz hP) ?_ zh ?_|refine' tj 1 rfl rfl (pz hP) ?_ zh ?_|refine' tj 2 rfl rfl (pz hP) ?_ zh ?_|refine' tj 3 rfl rfl (pz hP) ?_ zh ?_|refine' tj 4 rfl rfl (pz hP) ?_ zh ?_
  rotate_left
  · intro wS hS;obtain⟨k0,k1,k2,_⟩:=hS;go_simp;try rfl
  try simp only[Act.put,zA,zB,zC,zD,zE,zF]
 refine' wpAnyH_take (i:=5) (v:=_) rfl (by kernel_rfl) (by kernel_rfl) (by kernel_rfl) (pz hP) (yieldsIf_load_mid (by rfl) _ _ rfl ab 0 rfl (A.cells v1) _ ?d15S ?d15u ?d15d ?d15i) zh ?d15x
 case d15S=>intro wS hS;exact hS.2.2.2.2.1
 case d15u=>exact Tryz.underlying79
 case d15d=>rfl
 case d15i=>exact (infoAt A v1)
 try simp only[Act.put,zA,zB,zC,zD,zE,zF]
 iterate 5
  first|refine' tj 7 rfl rfl (pz hP) ?_ zh ?_|refine' tj 8 rfl rfl (pz hP) ?_ zh ?_|refine' tj 9 rfl rfl (pz hP) ?_ zh ?_|refine' tj 10 rfl rfl (pz hP) ?_ zh ?_|refine' tj 11 rfl rfl (pz hP) ?_ zh ?_
  rotate_left
  · intro wS hS;obtain⟨k0,k1,k2,_⟩:=hS;go_simp;try rfl
  try simp only[Act.put,zA,zB,zC,zD,zE,zF]
 refine' wpAnyH_take (i:=12) (v:=_) rfl (by kernel_rfl) (by kernel_rfl) (by kernel_rfl) (pz hP) (yieldsIf_load_mid (by rfl) _ _ rfl bb 0 rfl (XA.cells (asFile A) u) _ ?d111S ?d111u ?d111d ?d111i) zh ?d111x
 case d111S=>intro wS hS;exact hS.2.2.2.2.2
 case d111u=>exact Tryz.underlying67
 case d111d=>rfl
 case d111i=>exact (infoAtR (asFile A) u)
 try simp only[Act.put,zA,zB,zC,zD,zE,zF]
 refine wpAnyH_ready (rs:=[6]) (by kernel_rfl) (by simp) ?_
 refine AllReadyH.cons rfl (fun K hK=>?_) AllReadyH.nil
 have PC:=pcall1 B w2.drew r T k who path more A u v1 hp hm HV2.out HVR.out G.out (by omega) HZ.out HT2.out
 unfold ptr at PC
 go_simp
 refine PC.mono ?_
 rintro ex w5 ⟨rfl,T',he,hg5,hbr⟩
 have HE:=hid he;have HG5:=hid hg5;have HBR:=hid hbr
 clear he hg5 hbr PC
 have HB5:Hid (Below B w0 w5):=hid ((HB02.out.drew.mono HBW.out).trans (HE.out.below HT2.out HZ.out))
 have KS5:=hid (KS.out w5 (fun b h1 h2=>eff_far H.out HE.out h1 h2))
 have HF5:=hid ((H.out.below HB02.out.drew).eff HE.out).f
 go_wp2_with fail
 refine hK.out _ _ KS5.out ?_
 clear hK K zh
 intro zh
 try simp only[Act.put,zA,zB,zC,zD,zE,zF]
 refine wpAnyH_ready (rs:=[13]) (by kernel_rfl) (by simp) ?_
 refine AllReadyH.cons rfl (fun K hK=>?_) AllReadyH.nil
 have QC:=qcall1 B w5 q v R T.bare k who path more A u u hp hm (HU.out.kept HB5.out.size (fun b hb=>HB5.out.block b (HUB.out b hb))) HUR.out (HTB.out w5 HB5.out) (goodF_of H.out.t G.out.b.good) (by omega) (by have:=G.out.clk;show T.clock≤_;omega) (Nat.le_trans HZ.out HE.out.turn.size) HF5.out
 unfold ptr at QC
 go_simp
 refine QC.mono ?_
 intro ex w6 hq
 have HQ:=hid hq
 obtain⟨rfl,v6,R6,hrt,hru,hro,hrv⟩:=hq
 rw[runE_bare]
 have KS6:=hid (KS.out w6 (fun b h1 h2=>(hru.block b (Nat.lt_of_lt_of_le h2 HE.out.turn.size) (fun hc=>H.out.far h1 (List.mem_append_right _ hc))).trans (eff_far H.out HE.out h1 h2)))
 clear hrt hru hro hrv QC
 go_wp2_with fail
 refine hK.out _ _ KS6.out ?_
 clear hK K zh
 intro zh
 try simp only[Act.put,zA,zB,zC,zD,zE,zF]
 iterate 2
  first|refine' tj 14 rfl rfl (pz hP) ?_ zh ?_|refine' tj 15 rfl rfl (pz hP) ?_ zh ?_
  rotate_left
  · intro wS hS;obtain⟨k0,k1,k2,_⟩:=hS;go_simp;try rfl
  try simp only[Act.put,zA,zB,zC,zD,zE,zF]
 refine wpAnyH_done (by kernel_rfl) ?_ _
 clear zh
 try simp only[Act.put,zA,zB,zC,zD,zE,zF]
 go_wp2_with fail
 refine HKH.out _ _ _ _ _ _ _ _ _ _ _ _ _ _ _ _ _ _ _ _ _ w6 ?_
 exact doq_mk H.out HB02.out.drew (fun b h1 h2 h3=>HOT.out b h3) (by show w.heap.size≤w2.heap.size;rw[HS2.out];exact Nat.le_refl _) HE.out HG5.out HBR.out HQ.out
end Go.Proofs.YtnmejonfdfdegaaGreatDoor.Sr
