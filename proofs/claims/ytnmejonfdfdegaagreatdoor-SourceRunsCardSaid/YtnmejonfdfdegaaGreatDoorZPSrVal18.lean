import Derived.Test.YtnmejonfdfdegaaGreatDoorZPZz
import Derived.Test.YtnmejonfdfdegaaGreatDoorZPVaB0
import Derived.Test.YtnmejonfdfdegaaGreatDoorZPVaB6
import Derived.BigQuiet
import Derived.Deep.QuietTactic
set_option linter.unusedSimpArgs false
set_option linter.unusedVariables false
set_option maxHeartbeats 16000000
set_option maxRecDepth 100000
namespace Go.Proofs.YtnmejonfdfdegaaGreatDoor.Sr
open Go.RowKit Go.Maps Go.WideMaps Rf Go.Proofs.YtnmejonfdfdegaaGreatDoor.Nm St
open Lib (hid)
theorem zip_nodes {T:Tr} {R:List RN} {Z:List (TE×Value)} (h:T.bare.L=R.map RN.te) (h1:Z.map (·.1)=T.L):∀ i,i < R.length→∃ x p,R[i]? =some x∧Z[i]? =some p∧bare p.1=x.te:=by
 intro i hi
 have hx:=List.getElem?_eq_getElem hi
 have h2:T.bare.L[i]? =some (R[i].te):=by rw[h,List.getElem?_map,hx];rfl
 have h3:(T.L.map bare)[i]? =some (R[i].te):=h2
 rw[←h1,List.map_map,List.getElem?_map] at h3
 cases hz:Z[i]? with
 |none=>rw [hz] at h3;cases h3
 |some p=>rw [hz] at h3;exact⟨R[i],p,hx,rfl,Option.some.inj h3⟩
theorem value18_any (B k:Nat) (w:World) (r q:Nat) (T:Tr) (v:Value) (R:List RN) (h:Pr B w r T q v R T.bare) (g0:Bd T k) (hk:k≤900) (hT:∀ w':World,Below B w w'→Tabs w'):
 Calls Tryz.prog 22 #[ptr r,ptr q] w fun e w'=>e= .returned (.bool true)∧Below w.heap.size w w':=by
 have hlen:T.L.length≤2000:=by have:=g0.b.good.len;omega
 have hF:Fine T:=g0.b.good.fine (by omega)
 have hgf:=goodF_of h.t g0.b.good
 have hrl:R.length=T.L.length:=by have:=h.f.len;rw[this];exact List.length_map ..
 have hne:R.length≠0:=by
  obtain⟨e0,he0,_⟩:=h.t.root
  have:=List.length_pos_of_mem (getT_nm he0).1
  omega
 have hin:∀ x∈R,x.te∈T.bare.L:=fun x hx=>by rw[h.f.is];exact List.mem_map.2 ⟨x,hx,rfl⟩
 obtain⟨n,hn⟩:∃ n,n=R.length:=⟨_,rfl⟩
 have K1:Hid (∀ w':World,Below w.heap.size w w'→Calls Tryz.prog 40 #[ptr r] w' (TreeVal B r T w')):=hid (fun w' hb=>treeval_any B w' r T hF (by omega) (h.t.below hb))
 have K2:Hid (∀ w':World,Below w.heap.size w w'→Calls Tryz.prog 60 #[ptr r] w' fun e w2=>e= .returned (.int .i64 (T.clock:Int))∧w2=w'):=hid (fun w' hb=>now_any B w' r T (h.t.below hb))
 have K3:Hid (∀ w':World,Below w.heap.size w w'→Calls Tryz.prog 15 #[ptr r] w' fun e w2=>e= .returned (.int .i64 (T.reads:Int))∧w2=w'):=hid (fun w' hb=>reads_any B w' r T (h.t.below hb))
 obtain⟨gR,vc,rfl,hgR⟩:=h.f.form hne
 have HVC:Hid (VaC w q gR vc n R):=hid ⟨fun w' hb=>by rw[hn];exact cell_of_heap (h.f.below hb).book,fun w' hb i x hx=>⟨(h.f.below hb).ent hx,((h.f.below hb).node x (List.mem_of_getElem? hx)).2⟩,
  fun w' hb x hx=>rpath_any B w' x (hT w' (hb.mono h.size)) ((h.f.below hb).node x hx).1 (hgf.deep x.te (hin x hx)) (hgf.names x.te (hin x hx)),
  fun x hx=>Array.all_eq_true_iff_forall_mem.2 (fun u hu=>rn_ones (by obtain⟨a,c,h1⟩:=rowS_slice (h.f.node x hx).1.row;rw[h1];rfl) (rxs_one (h.f.node x hx).2) u (by simpa using hu)),hn.symm,fun x hx=>(chkA_parts (hgf.att x.te (hin x hx))).2.2.1⟩
 have KB:Hid (∀ w':World,Below w.heap.size w w'→w'.cell? ⟨q,0,none⟩=some (.slice (some ⟨gR,0,none⟩) n vc)∧w'.cell? ⟨q,1,none⟩=some (.int .i64 (T.clock:Int))∧w'.cell? ⟨q,3,none⟩=some (.int .i64 (T.reads:Int))):=hid (fun w' hb=>⟨by rw[hn];exact cell_of_heap (h.f.below hb).book,cell_of_heap (h.f.below hb).book,cell_of_heap (h.f.below hb).book⟩)
 have HZN:Hid (∀ Z:List (TE×Value),Z.map (·.1)=T.L→∀ i,i < n→∃ x p,R[i]? =some x∧Z[i]? =some p∧bare p.1=x.te):=hid (fun Z hz=>by rw[hn];exact zip_nodes h.f.is hz)
 have HLN:Hid (n≠0∧n≤1000000∧T.L.length=n):=hid ⟨by omega,by omega,by omega⟩
 clear h g0 hT hrl hF hgf hin hgR hlen hne hn
 unfold TreeVal at K1
 unfold ptr at*
 go_enter Tryz.func22,Tryz.ntmps22
 go_wp2_with fail
 refine(K1.out w (Below.refl _ _)).mono ?_
 rintro ex w1 ⟨v1,R1,rfl,hr1,ho1,hb1⟩
 have hl1:R1.length=n:=by rw[←HLN.out.2.2,←hr1,List.length_map]
 obtain⟨g1,p1,rfl,hg1,hG1,_⟩:=rowS_form ho1.row (by rw[hl1];exact HLN.out.1)
 rw[hl1] at ho1 ⊢
 have HR1:=hid hr1;have HO1:=hid ho1;have HB1:=hid hb1
 clear hr1 ho1 hb1 hl1
 go_wp2_with fail
 refine(K1.out w1 HB1.out).mono ?_
 rintro ex w2 ⟨v2,R2,rfl,hr2,ho2,hb2⟩
 have hl2:R2.length=n:=by rw[←HLN.out.2.2,←hr2,List.length_map]
 obtain⟨g2,p2,rfl,hg2,hG2,_⟩:=rowS_form ho2.row (by rw[hl2];exact HLN.out.1)
 rw[hl2] at ho2 ⊢
 have HR2:=hid hr2;have HO2:=hid ho2;have HK2:=hid hb2
 have HB2:Hid (Below w.heap.size w w2):=hid (HB1.out.trans (hb2.mono HB1.out.size))
 have HB2D:Hid (Below w.heap.size w w2.drew):=hid HB2.out.drew
 clear hr2 ho2 hb2 K1 hl2 hg1 hG1 hg2 hG2
 go_upto_region 3 with(fail)
 refine wp_region_held_drew (S:=(fun w':World=>Below w.heap.size w w')) (by kernel_rfl) HB2D.out (fun zh=>?_)
 iterate 10
  first|refine' tj 0 rfl rfl (fun _ _ _ h=>h) ?_ zh ?_|refine' tj 1 rfl rfl (fun _ _ _ h=>h) ?_ zh ?_|refine' tj 2 rfl rfl (fun _ _ _ h=>h) ?_ zh ?_|refine' tj 3 rfl rfl (fun _ _ _ h=>h) ?_ zh ?_|refine' tj 4 rfl rfl (fun _ _ _ h=>h) ?_ zh ?_|refine' tj 5 rfl rfl (fun _ _ _ h=>h) ?_ zh ?_|refine' tj 6 rfl rfl (fun _ _ _ h=>h) ?_ zh ?_|refine' tj 7 rfl rfl (fun _ _ _ h=>h) ?_ zh ?_|refine' tj 8 rfl rfl (fun _ _ _ h=>h) ?_ zh ?_|refine' tj 9 rfl rfl (fun _ _ _ h=>h) ?_ zh ?_
  rotate_left
  · intro wS hS;obtain⟨b0,b1,b3⟩:=KB.out wS hS;go_simp;try rfl
  try simp only[Act.put,zA,zB,zC,zD,zE,zF]
 iterate 10
  first|refine' tj 10 rfl rfl (fun _ _ _ h=>h) ?_ zh ?_|refine' tj 11 rfl rfl (fun _ _ _ h=>h) ?_ zh ?_|refine' tj 12 rfl rfl (fun _ _ _ h=>h) ?_ zh ?_|refine' tj 13 rfl rfl (fun _ _ _ h=>h) ?_ zh ?_|refine' tj 14 rfl rfl (fun _ _ _ h=>h) ?_ zh ?_|refine' tj 15 rfl rfl (fun _ _ _ h=>h) ?_ zh ?_|refine' tj 16 rfl rfl (fun _ _ _ h=>h) ?_ zh ?_|refine' tj 17 rfl rfl (fun _ _ _ h=>h) ?_ zh ?_|refine' tj 18 rfl rfl (fun _ _ _ h=>h) ?_ zh ?_|refine' tj 19 rfl rfl (fun _ _ _ h=>h) ?_ zh ?_
  rotate_left
  · intro wS hS;obtain⟨b0,b1,b3⟩:=KB.out wS hS;go_simp;try rfl
  try simp only[Act.put,zA,zB,zC,zD,zE,zF]
 iterate 4
  first|refine' tj 21 rfl rfl (fun _ _ _ h=>h) ?_ zh ?_|refine' tj 22 rfl rfl (fun _ _ _ h=>h) ?_ zh ?_|refine' tj 23 rfl rfl (fun _ _ _ h=>h) ?_ zh ?_|refine' tj 24 rfl rfl (fun _ _ _ h=>h) ?_ zh ?_
  rotate_left
  · intro wS hS;obtain⟨b0,b1,b3⟩:=KB.out wS hS;go_simp;try rfl
  try simp only[Act.put,zA,zB,zC,zD,zE,zF]
 refine wpAnyH_ready (rs:=[20]) (by kernel_rfl) (by simp) ?_
 refine AllReadyH.cons rfl (fun K hK=>?_) AllReadyH.nil
 go_simp
 refine(K2.out _ HB2D.out).mono ?_
 rintro ez w3 ⟨rfl,rfl⟩
 go_wp2_with fail
 refine hK.out _ _ HB2D.out ?_
 clear hK K zh
 intro zh
 try simp only[Act.put,zA,zB,zC,zD,zE,zF]
 iterate 8
  first|refine' tj 25 rfl rfl (fun _ _ _ h=>h) ?_ zh ?_|refine' tj 26 rfl rfl (fun _ _ _ h=>h) ?_ zh ?_|refine' tj 27 rfl rfl (fun _ _ _ h=>h) ?_ zh ?_|refine' tj 28 rfl rfl (fun _ _ _ h=>h) ?_ zh ?_|refine' tj 30 rfl rfl (fun _ _ _ h=>h) ?_ zh ?_|refine' tj 31 rfl rfl (fun _ _ _ h=>h) ?_ zh ?_|refine' tj 32 rfl rfl (fun _ _ _ h=>h) ?_ zh ?_|refine' tj 33 rfl rfl (fun _ _ _ h=>h) ?_ zh ?_
  rotate_left
  · intro wS hS;obtain⟨b0,b1,b3⟩:=KB.out wS hS;go_simp;try rfl
  try simp only[Act.put,zA,zB,zC,zD,zE,zF]
 refine wpAnyH_ready (rs:=[29]) (by kernel_rfl) (by simp) ?_
 refine AllReadyH.cons rfl (fun K hK=>?_) AllReadyH.nil
 go_simp
 refine(K3.out _ HB2D.out).mono ?_
 rintro ez w4 ⟨rfl,rfl⟩
 go_wp2_with fail
 refine hK.out _ _ HB2D.out ?_
 clear hK K zh
 intro zh
 try simp only[Act.put,zA,zB,zC,zD,zE,zF]
 iterate 2
  first|refine' tj 34 rfl rfl (fun _ _ _ h=>h) ?_ zh ?_|refine' tj 35 rfl rfl (fun _ _ _ h=>h) ?_ zh ?_
  rotate_left
  · intro wS hS;obtain⟨b0,b1,b3⟩:=KB.out wS hS;go_simp;try rfl
  try simp only[Act.put,zA,zB,zC,zD,zE,zF]
 refine wpAnyH_done (by kernel_rfl) ?_ _
 clear zh
 try simp only[Act.put,zA,zB,zC,zD,zE,zF]
 have HI1:Hid (VaI w.heap.size w2.drew g1 R1 0):=hid (VaI.of ((HO1.out.below HK2.out).below (Below.refl _ w2).drew))
 have HGE:Hid (∀ b∈g1::R1.flatMap (fun p=>ob p.2),w.heap.size≤b∧b < w1.heap.size):=hid (fun b hb=>by
  rcases List.mem_cons.1 hb with rfl|hb
  · exact⟨rowS_ge HO1.out.row _ (by simp[ob,Value.ownBlock]),rowS_lt HO1.out.row _ (by simp[ob,Value.ownBlock])⟩
  · obtain⟨p,hp,hb⟩:=List.mem_flatMap.1 hb
    exact⟨rowS_ge (HO1.out.xrow p hp) b hb,rowS_lt (HO1.out.xrow p hp) b hb⟩)
 have HN1:Hid ((g1::R1.flatMap fun p=>ob p.2).Nodup):=hid HO1.out.nod
 have HCW:Hid (w.heap.size≤w.heap.size):=hid (Nat.le_refl _)
 go_upto_block 0 with(fail)
 refine va_b0 _ _ _ _ _ _ _ _ _ _ _ _ _ _ _ _ _ _ _ _ _ _ _ _ _ _ _ _ _ _ _ _ _ _ _ _ _ _ _ _ _ _ _ _ _ _ _ _ _ _ _ _ _ _ _ _ _ _ _ _ _ _ _ _ _ _ _ _ _ _ _ _ _ _ _ _ _ _ _ _ _ _ _ _ _ _ _ _ _ _ _ _ _ _ _ _ _ _ _ _ _ _ _ _ _ _ _ _ _ _ _ _ _ _ _ _ _ _ _ _ _ _ _ _ _ _ _ _ _ _ _ _ _ _ _ _ _ _ _ _ _ _ _ _ _ _ _ _ _ _ _ _ _ _ _ _ _ _ _ _ _ _ _ _ _ _ _ _ _ _ _ _ _ _ _ _ _ _ _ _ _ _ _ _ _ _ (by intro c a a_ w hd h;have h2:a.defers=[]∧_:=h;exact And.intro (hd.symm.trans h2.1) h2.2) HLN.out.2.1 (hid (HZN.out R1 HR1.out)) HVC HB2D HI1 HCW (hid (fun b hb=>(HGE.out b hb).1)) HN1 ?_
 intro t4 t7 t8 t9 ja jb je jf jg jh ji jj jk jl jm jn jo jp jq jr js jt ju jv jw jx jy jz jA jB jC jD jE jF jG jH jI jJ jK jL jM jN jO jP jQ jR jS jT jU jV jW jX jY jZ j0 j1 j2 j3 j4 j5 j6 j7 j8 j9 ya yb yc yd ye yf yg yh yi yj yk yl ym yn yo yp yq yr ys yt yu yv yw yx yy yz yA yB yC yD yE yF yG yH yI w5 h5
 have HT5:=hid h5.1;have HB5:=hid h5.2
 have HI2:Hid (VaI w1.heap.size w5 g2 R2 0):=hid (VaI.of (HO2.out.kept (fun b hb hl=>by
  have hge:w1.heap.size≤b:=by
   rcases List.mem_append.1 hb with hb|hb
   · exact rowS_ge HO2.out.row b hb
   · obtain⟨p,hp,hb⟩:=List.mem_flatMap.1 hb
     exact rowS_ge (HO2.out.xrow p hp) b hb
  exact HT5.out.block b hl (fun hc=>by have:=(HGE.out b hc).2;omega))))
 clear h5
 go_upto_block 6 with(fail)
 refine va_b6 _ _ _ _ _ _ _ _ _ _ _ _ _ _ _ _ _ _ _ _ _ _ _ _ _ _ _ _ _ _ _ _ _ _ _ _ _ _ _ _ _ _ _ _ _ _ _ _ _ _ _ _ _ _ _ _ _ _ _ _ _ _ _ _ _ _ _ _ _ _ _ _ _ _ _ _ _ _ _ _ _ _ _ _ _ _ _ _ _ _ _ _ _ _ _ _ _ _ _ _ _ _ _ _ _ _ _ _ _ _ _ _ _ _ _ _ _ _ _ _ _ _ _ _ _ _ _ _ _ _ _ _ _ _ _ _ _ _ _ _ _ _ _ _ _ _ _ _ _ _ _ _ _ _ _ _ _ _ _ _ _ _ _ _ _ _ _ _ _ _ _ _ _ _ _ _ _ _ _ _ _ _ _ _ _ _ (by intro c a a_ w hd h;have h2:a.defers=[]∧_:=h;exact And.intro (hd.symm.trans h2.1) h2.2) HLN.out.2.1 (hid (HZN.out R2 HR2.out)) HVC HB5 HI2 ?_
 intro t4 jc jd yJ yK yL yM yN yO yP yQ yR yS yT yU yV yW yX yY yZ y0 y1 y2 y3 y4 y5 y6 y7 y8 y9 Ja Jb Jc Jd Je Jf Jg Jh Ji Jj Jk Jl Jm Jn Jo w6 h6
 have HB6:Hid (Below w.heap.size w w6):=hid (HB5.out.trans (h6.mono HB5.out.size))
 clear h6
 go_wp2
 go_ret
 exact⟨rfl,HB6.out⟩
end Go.Proofs.YtnmejonfdfdegaaGreatDoor.Sr
