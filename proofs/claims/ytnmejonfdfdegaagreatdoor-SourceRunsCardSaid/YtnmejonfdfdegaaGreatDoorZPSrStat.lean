import Derived.Test.YtnmejonfdfdegaaGreatDoorZPZz
import Derived.Test.YtnmejonfdfdegaaGreatDoorZPSrLook
import Derived.Test.YtnmejonfdfdegaaGreatDoorZPRowKit
set_option linter.unusedSimpArgs false
set_option linter.unusedVariables false
set_option maxHeartbeats 8000000
set_option maxRecDepth 100000
namespace Go.Proofs.YtnmejonfdfdegaaGreatDoor.Sr
open Go.RowKit Go.Maps Go.WideMaps Rf Go.Proofs.YtnmejonfdfdegaaGreatDoor.Nm St
open Lib (hid)
def sizeT (e:TE) (L:List TE):Int:=if e.at_.node=1 then(e.data.length:Int) else if e.at_.node=2 then((kidsT L e.nm).length:Int) else if e.at_.node=3 then(e.at_.target.length:Int) else 0
def statT (e:TE) (L:List TE):SE:={zeroS with node:=e.at_.node,size:=sizeT e L,ino:=e.ino,tick:=e.tick}
def statN (p:List UInt8) (L:List TE):SE:=match findN p L with|some e=>statT e L|none=>zeroS
theorem map_len {B:Nat} {w:World} {r:Nat} {T:Tr} (h:TreeAt B w r T) {e:TE} (he:e∈T.L) (ty:TypeId):
 (Builtin.len_ #[80] ty #[mapV e.m]).run Tryz.prog w= .ok (.int .i64 ((kidsT T.L e.nm).length:Int)) w:=by
 cases hm:e.m with
 |some b=>
  have:=((h.node e he).kids b hm).len Tryz.underlying80 ty
  rw[toD_size] at this
  exact this
 |none=>
  have hk:kidsT T.L e.nm=[]:=by
   rw[List.eq_nil_iff_forall_not_mem]
   intro k hk
   obtain⟨x,hx,h1,_⟩:=kidsT_mem.1 hk
   obtain⟨u,hu,h2,h3⟩:=h.par x hx _ _ h1
   rw[srtT_inj h.srt hu he h2] at h3
   exact h3 hm
  rw[hk]
  have hu:Tryz.prog.underlying 80=_:=Tryz.underlying80
  rw[mapV]
  go_simp
theorem oneSt (a b c d:Value) (ha:a.oneCell'=true) (hb:b.oneCell'=true) (hc:c.oneCell'=true) (hd:d.oneCell'=true):(#[a,b,c,d]:Array Value).all (·.oneCell')=true:=by
 rw[Array.all_eq_true_iff_forall_mem]
 intro u hu
 simp at hu
 rcases hu with rfl|rfl|rfl|rfl <;> assumption
theorem wpList_maplen {B:Nat} {w:World} {r:Nat} {T:Tr} (h:TreeAt B w r T) {e:TE} (he:e∈T.L)
 {ops:Array Oper} {o:Oper} {rest:List Oper} {a:Act} {Q:Exit→Act→World→Prop} (hgd:o.guard=none) (x:Operand) (ho:o.op= .call {callee:= .builtin .len,args:= #[x],argTypes:= #[80]}) (hx:a.eval x=mapV e.m)
 (hk:wpList Tryz.prog ops Q rest (a.put o.dst (.int .i64 ((kidsT T.L e.nm).length:Int))) w):wpList Tryz.prog ops Q (o::rest) a w:=by
 exact wpList_plain hgd fun _ hK=>by
  unfold Oper.wp
  simp[execOp,ho,resolve,invoke,builtin,hx,map_len h he o.type,Result.andThen]
  exact hK _ _ hk
theorem infoSt:(Tryz.prog.info? 40).map (·.size)=some 4:=by kernel_rfl
theorem builtSt:Tryz.prog.built 40 []=some #[.int .u8 0,.int .i64 0,.int .u64 0,.int .i64 0]:=by kernel_rfl
theorem stat_any (B:Nat) (w:World) (r:Nat) (T:Tr) (p:List UInt8) (hp:p.length≤4611686018427387904) (h:TreeAt B w r T):
 Calls Tryz.prog 10 #[ptr r,.string ⟨p.toArray⟩] w fun e w'=>e= .returned (.tuple #[.agg (statN p T.L).stat.toArray,.int .i64 (findE p T.L)])∧Below w.heap.size w w':=by
 obtain⟨W,hW⟩:∃ W,W=w.alloc (.cells #[.int .u8 0,.int .i64 0,.int .u64 0,.int .i64 0] 40):=⟨_,rfl⟩
 have hb0:Below w.heap.size w W:=by rw[hW];exact(Below.refl _ _).alloc (Nat.le_refl _) _
 have hq0:W.heap[w.heap.size]? =some (.cells #[.int .u8 0,.int .i64 0,.int .u64 0,.int .i64 0] 40):=by rw[hW];exact(MapKept.heap_alloc w _).1
 have FI:=hid (find_any B W r T p hp (h.below hb0))
 have H:=hid h;have HB0:=hid hb0;have HA0:=hid hq0;have HW:=hid hW
 have HST:Hid (statN p T.L=match findN p T.L with|some e=>statT e T.L|none=>zeroS):=hid rfl
 generalize statN p T.L=RS at*
 clear h hb0 hq0 hW
 unfold ptr at*
 go_enter Tryz.func10,Tryz.ntmps10
 go_wp2_with fail
 change Calls _ _ _ (w.alloc (.cells #[.int .u8 0,.int .i64 0,.int .u64 0,.int .i64 0] 40)) _
 rw[←HW.out]
 refine FI.out.mono ?_
 rintro ex w1 ⟨v,rfl,hp1,hb1⟩
 have HB:Hid (Below w.heap.size w w1):=hid (HB0.out.trans (hb1.mono HB0.out.size))
 have HA1:=hid ((hb1.block _ (lt_of_heap HA0.out)).trans HA0.out)
 obtain⟨va,vc,rfl⟩:=rowS_slice hp1.row
 clear FI hp1 hb1 HB0 HA0 HW
 obtain⟨c,hc⟩:∃ c,c=findE p T.L:=⟨_,rfl⟩
 have HC:Hid (c=0 ↔ (findN p T.L).isSome=true):=hid (by
  rw[hc,findE,findN]
  rcases splitE_cases p with h0|⟨h0,_⟩
  · rw[if_pos h0,if_pos h0];cases getT (splitL p) T.L <;> simp
  · rw[h0];simp)
 have HCF:=hid hc
 rw[←hc]
 clear hc
 cases hf:findN p T.L with
 |none=>
  have hS:RS=zeroS:=by rw[HST.out,hf]
  subst hS
  have hc:¬ c=0:=by rw[HC.out,hf];simp
  have hb:(c==0)=false:=by rw[beq_eq_false_iff_ne];exact hc
  have hb2:(c !=0)=true:=by rw[bne,hb];rfl
  unfold ptrO
  clear hf HST HC hc
  go_wp2_with (first
   |(refine Sh.wpList_build_is rfl 40 _ rfl #[.int .u8 0,.int .i64 0,.int .u64 0,.int .i64 0] builtSt ?_)
   |(refine Sh.wpList_store_at HA1.out rfl 40 (.tmp 4) (.tmp 19) rfl #[.int .u8 0,.int .i64 0,.int .u64 0,.int .i64 0] rfl rfl infoSt rfl (oneSt _ _ _ _ rfl rfl rfl rfl) ?_
     intro w3 hq3 ht3 hs3
     have HQ3:=hid hq3;have HT3:=hid ht3
     clear hq3 ht3 hs3))
  have hld:=run_loadVar_row (P:=Tryz.prog) w3 w.heap.size _ 40 #[.int .u8 0,.int .i64 0,.int .u64 0,.int .i64 0] _ _ HQ3.out Tryz.underlying40 rfl infoSt
  refine bodyPost_ret (v:= .tuple #[.agg #[.int .u8 0,.int .i64 0,.int .u64 0,.int .i64 0],.int .i64 c]) ?_ rfl ?_
  · rw[results_cell_tmp (fn:=Tryz.f10) rfl]
    show((asAddr (.pointer (some ⟨w.heap.size,0,none⟩))).run Tryz.prog _).andThen _=_
    simp only[asAddr,Sem.run_pure,Result.andThen_ok,hld]
    rfl
  · rw[←HCF.out]
    exact⟨rfl,HB.out.trans (HT3.out.below (by simp) HB.out.size)⟩
 |some n=>
  have HS:Hid (RS=statT n T.L):=hid (by rw[HST.out,hf])
  have hc:c=0:=by rw[HC.out,hf];rfl
  subst hc
  have hn:n∈T.L:=by
   rw[findN] at hf
   split at hf
   · exact(getT_nm hf).1
   · cases hf
  have HN:=hid hn
  have H1:=hid (H.out.below HB.out)
  clear hf HST HC hn
  unfold ptrO
  have KS:Hid (∀ w',Below w1.heap.size w1 w'→w'.cell? ⟨n.p,0,none⟩=some (.int .u64 (n.ino:Int))∧w'.cell? ⟨n.p,1,none⟩=some (.int .i64 n.tick)∧w'.cell? ⟨n.p,2,none⟩=some (.int .u8 (n.at_.node:Int))):=hid (fun w' hb=>by
   have:=((H1.out.below hb).node n HN.out).cells
   exact⟨cell_of_heap this,cell_of_heap this,cell_of_heap this⟩)
  have HBD:Hid (Below w1.heap.size w1 w1.drew):=hid (Below.refl w1.heap.size w1).drew
  have HBA:Hid (Below w1.heap.size w1 (w1.drew.alloc (.cells #[.int .u8 0,.int .i64 0,.int .u64 0,.int .i64 0] 40))):=hid (HBD.out.alloc (Nat.le_refl _) _)
  go_wp2
  refine wp_region_held_drew (S:=(fun w':World=>w'.cell? ⟨n.p,0,none⟩=some (.int .u64 (n.ino:Int))∧w'.cell? ⟨n.p,1,none⟩=some (.int .i64 n.tick)∧w'.cell? ⟨n.p,2,none⟩=some (.int .u8 (n.at_.node:Int)))) (by kernel_rfl) (KS.out _ HBD.out) (fun zh=>?_)
  iterate 10
   first|refine' tj 0 rfl rfl (fun _ _ _ h=>h) ?_ zh ?_|refine' tj 1 rfl rfl (fun _ _ _ h=>h) ?_ zh ?_|refine' tj 2 rfl rfl (fun _ _ _ h=>h) ?_ zh ?_|refine' tj 3 rfl rfl (fun _ _ _ h=>h) ?_ zh ?_|refine' tj 4 rfl rfl (fun _ _ _ h=>h) ?_ zh ?_|refine' tj 5 rfl rfl (fun _ _ _ h=>h) ?_ zh ?_|refine' tj 6 rfl rfl (fun _ _ _ h=>h) ?_ zh ?_|refine' tj 7 rfl rfl (fun _ _ _ h=>h) ?_ zh ?_|refine' tj 8 rfl rfl (fun _ _ _ h=>h) ?_ zh ?_|refine' tj 9 rfl rfl (fun _ _ _ h=>h) ?_ zh ?_
   rotate_left
   · intro wS hS;obtain⟨k0,k1,k2⟩:=hS;go_simp;try rfl
   try simp only[Act.put,zA,zB,zC,zD,zE,zF]
  iterate 6
   first|refine' tj 10 rfl rfl (fun _ _ _ h=>h) ?_ zh ?_|refine' tj 11 rfl rfl (fun _ _ _ h=>h) ?_ zh ?_|refine' tj 12 rfl rfl (fun _ _ _ h=>h) ?_ zh ?_|refine' tj 13 rfl rfl (fun _ _ _ h=>h) ?_ zh ?_|refine' tj 14 rfl rfl (fun _ _ _ h=>h) ?_ zh ?_|refine' tj 15 rfl rfl (fun _ _ _ h=>h) ?_ zh ?_
   rotate_left
   · intro wS hS;obtain⟨k0,k1,k2⟩:=hS;go_simp;try rfl
   try simp only[Act.put,zA,zB,zC,zD,zE,zF]
  refine wpAnyH_ready (rs:=[16]) (by kernel_rfl) (by simp) ?_
  refine AllReadyH.cons rfl (fun K hK=>?_) AllReadyH.nil
  go_simp
  refine hK.out _ _ (KS.out _ HBA.out) ?_
  clear hK K zh
  intro zh
  try simp only[Act.put,zA,zB,zC,zD,zE,zF]
  refine wpAnyH_ready (rs:=[17]) (by kernel_rfl) (by simp) ?_
  refine AllReadyH.cons rfl (fun K hK=>?_) AllReadyH.nil
  refine step_wp rfl ?_
  refine wp_store_new (w:=w1.drew) (p:=w1.heap.size) rfl 40 (.tmp 9) (.tmp 36) rfl #[.int .u8 (n.at_.node:Int),.int .i64 0,.int .u64 (n.ino:Int),.int .i64 n.tick] (by rfl) (by rfl) (by kernel_rfl) (by rfl) (oneSt _ _ _ _ rfl rfl rfl rfl) ?_
  intro w4 hq4 hb4 hs4
  refine hK.out _ _ (KS.out _ (HBD.out.trans (hb4.mono (Nat.le_refl _)))) ?_
  clear hK K zh
  intro zh
  try simp only[Act.put,zA,zB,zC,zD,zE,zF]
  refine wpAnyH_done (by kernel_rfl) ?_ _
  clear zh
  try simp only[Act.put,zA,zB,zC,zD,zE,zF]
  clear hs4
  have HB4:Hid (Below w1.heap.size w1 w4):=hid (HBD.out.trans (hb4.mono (Nat.le_refl _)))
  have HQ4:=hid hq4
  clear hq4 hb4
  have H4:=hid (H1.out.below HB4.out)
  have HA4:Hid (w4.heap[w.heap.size]? =some (.cells #[.int .u8 0,.int .i64 0,.int .u64 0,.int .i64 0] 40)):=hid ((HB4.out.block _ (lt_of_heap HA1.out)).trans HA1.out)
  have c0:w4.cell? ⟨n.p,2,none⟩=some (.int .u8 (n.at_.node:Int)):=cell_of_heap (H4.out.node n HN.out).cells
  have cg:w4.cell? ⟨w1.heap.size,1,none⟩=some (.int .i64 0):=cell_of_heap HQ4.out
  have fg:w4.frozen? ⟨w1.heap.size,1,none⟩=false:=frozen_of_heap HQ4.out
  have HLT:Hid (w.heap.size < w1.heap.size):=hid (lt_of_heap HA1.out)
  have KF:Hid (∀ (z:Int),sizeT n T.L=z→RS.stat.toArray= #[.int .u8 (n.at_.node:Int),.int .i64 z,.int .u64 (n.ino:Int),.int .i64 n.tick]):=hid (fun z hz=>by
   rw[HS.out,statT,hz];rfl)
  have HAG:Hid (w.heap.size≠w1.heap.size):=hid (by have:=HLT.out;omega)
  have HD:Hid (∀ z:Int,(w4.setCell ⟨w1.heap.size,1,none⟩ (.int .i64 z)).heap[w1.heap.size]? =some (.cells #[.int .u8 (n.at_.node:Int),.int .i64 z,.int .u64 (n.ino:Int),.int .i64 n.tick] 40)):=hid (fun z=>by rw[setCell_heap _ _ _ _ _ _ HQ4.out];rfl)
  have HA5:Hid (∀ z:Int,(w4.setCell ⟨w1.heap.size,1,none⟩ (.int .i64 z)).heap[w.heap.size]? =some (.cells #[.int .u8 0,.int .i64 0,.int .u64 0,.int .i64 0] 40)):=hid (fun z=>(Below.heap_setCell _ _ _ _ HAG.out).trans HA4.out)
  have HB5:Hid (∀ z:Int,Below w.heap.size w (w4.setCell ⟨w1.heap.size,1,none⟩ (.int .i64 z))):=hid (fun z=>(HB.out.trans (HB4.out.mono HB.out.size)).setCell HB.out.size _)
  have HB45:Hid (Below w.heap.size w w4):=hid (HB.out.trans (HB4.out.mono HB.out.size))
  have cda:w4.cell? ⟨n.p,9,none⟩=some (.string ⟨n.data.toArray⟩):=cell_of_heap (H4.out.node n HN.out).cells
  have cki:w4.cell? ⟨n.p,10,none⟩=some (mapV n.m):=cell_of_heap (H4.out.node n HN.out).cells
  have cta:w4.cell? ⟨n.p,7,none⟩=some (.string ⟨n.at_.target.toArray⟩):=cell_of_heap (H4.out.node n HN.out).cells
  have hds:(⟨n.data.toArray⟩:ByteArray).size=n.data.length:=rfl
  have hts:(⟨n.at_.target.toArray⟩:ByteArray).size=n.at_.target.length:=rfl
  by_cases h1:n.at_.node=1
  · have hb1:(((n.at_.node:Nat):Int)==1)=true:=by rw[beq_iff_eq];omega
    have HH1:=hid h1
    clear h1
    have HZ:Hid (sizeT n T.L=(n.data.length:Int)):=hid (by rw[sizeT,if_pos HH1.out])
    go_wp2_with (first
     |(refine wpList_maplen H4.out HN.out rfl _ rfl rfl ?_)
     |(refine Sh.wpList_load_at (T:=40) (cs:= #[.int .u8 (n.at_.node:Int),.int .i64 ((n.data.length:Int)),.int .u64 (n.ino:Int),.int .i64 n.tick]) (HD.out _) rfl 40 (.tmp 9) rfl rfl _ Tryz.underlying40 rfl infoSt ?_)
     |(refine Sh.wpList_store_at (HA5.out _) rfl 40 (.tmp 4) (.tmp 67) rfl #[.int .u8 (n.at_.node:Int),.int .i64 ((n.data.length:Int)),.int .u64 (n.ino:Int),.int .i64 n.tick] rfl rfl infoSt rfl (oneSt _ _ _ _ rfl rfl rfl rfl) ?_
       intro w6 hq6 ht6 hs6
       have HQ6:=hid hq6;have HT6:=hid ht6
       clear hq6 ht6 hs6))
    have hld:=run_loadVar_row (P:=Tryz.prog) w6 w.heap.size _ 40 #[.int .u8 (n.at_.node:Int),.int .i64 ((n.data.length:Int)),.int .u64 (n.ino:Int),.int .i64 n.tick] _ _ HQ6.out Tryz.underlying40 rfl infoSt
    rw[KF.out _ HZ.out]
    refine bodyPost_ret (v:= .tuple #[.agg #[.int .u8 (n.at_.node:Int),.int .i64 ((n.data.length:Int)),.int .u64 (n.ino:Int),.int .i64 n.tick],.int .i64 0]) ?_ rfl ?_
    · rw[results_cell_tmp (fn:=Tryz.f10) rfl]
      show((asAddr (.pointer (some ⟨w.heap.size,0,none⟩))).run Tryz.prog _).andThen _=_
      simp only[asAddr,Sem.run_pure,Result.andThen_ok,hld]
      rfl
    · rw[←HCF.out]
      exact⟨rfl,(HB5.out _).trans (HT6.out.below (by simp) (HB5.out _).size)⟩
  have hb1:(((n.at_.node:Nat):Int)==1)=false:=by rw[beq_eq_false_iff_ne];omega
  by_cases h2:n.at_.node=2
  · have hb2:(((n.at_.node:Nat):Int)==2)=true:=by rw[beq_iff_eq];omega
    have HH1:=hid h1;have HH2:=hid h2
    clear h1 h2
    have HZ:Hid (sizeT n T.L=((kidsT T.L n.nm).length:Int)):=hid (by rw[sizeT,if_neg HH1.out,if_pos HH2.out])
    go_wp2_with (first
     |(refine wpList_maplen H4.out HN.out rfl _ rfl rfl ?_)
     |(refine Sh.wpList_load_at (T:=40) (cs:= #[.int .u8 (n.at_.node:Int),.int .i64 (((kidsT T.L n.nm).length:Int)),.int .u64 (n.ino:Int),.int .i64 n.tick]) (HD.out _) rfl 40 (.tmp 9) rfl rfl _ Tryz.underlying40 rfl infoSt ?_)
     |(refine Sh.wpList_store_at (HA5.out _) rfl 40 (.tmp 4) (.tmp 67) rfl #[.int .u8 (n.at_.node:Int),.int .i64 (((kidsT T.L n.nm).length:Int)),.int .u64 (n.ino:Int),.int .i64 n.tick] rfl rfl infoSt rfl (oneSt _ _ _ _ rfl rfl rfl rfl) ?_
       intro w6 hq6 ht6 hs6
       have HQ6:=hid hq6;have HT6:=hid ht6
       clear hq6 ht6 hs6))
    have hld:=run_loadVar_row (P:=Tryz.prog) w6 w.heap.size _ 40 #[.int .u8 (n.at_.node:Int),.int .i64 (((kidsT T.L n.nm).length:Int)),.int .u64 (n.ino:Int),.int .i64 n.tick] _ _ HQ6.out Tryz.underlying40 rfl infoSt
    rw[KF.out _ HZ.out]
    refine bodyPost_ret (v:= .tuple #[.agg #[.int .u8 (n.at_.node:Int),.int .i64 (((kidsT T.L n.nm).length:Int)),.int .u64 (n.ino:Int),.int .i64 n.tick],.int .i64 0]) ?_ rfl ?_
    · rw[results_cell_tmp (fn:=Tryz.f10) rfl]
      show((asAddr (.pointer (some ⟨w.heap.size,0,none⟩))).run Tryz.prog _).andThen _=_
      simp only[asAddr,Sem.run_pure,Result.andThen_ok,hld]
      rfl
    · rw[←HCF.out]
      exact⟨rfl,(HB5.out _).trans (HT6.out.below (by simp) (HB5.out _).size)⟩
  have hb2:(((n.at_.node:Nat):Int)==2)=false:=by rw[beq_eq_false_iff_ne];omega
  by_cases h3:n.at_.node=3
  · have hb3:(((n.at_.node:Nat):Int)==3)=true:=by rw[beq_iff_eq];omega
    have HH1:=hid h1;have HH2:=hid h2;have HH3:=hid h3
    clear h1 h2 h3
    have HZ:Hid (sizeT n T.L=(n.at_.target.length:Int)):=hid (by rw[sizeT,if_neg HH1.out,if_neg HH2.out,if_pos HH3.out])
    go_wp2_with (first
     |(refine wpList_maplen H4.out HN.out rfl _ rfl rfl ?_)
     |(refine Sh.wpList_load_at (T:=40) (cs:= #[.int .u8 (n.at_.node:Int),.int .i64 ((n.at_.target.length:Int)),.int .u64 (n.ino:Int),.int .i64 n.tick]) (HD.out _) rfl 40 (.tmp 9) rfl rfl _ Tryz.underlying40 rfl infoSt ?_)
     |(refine Sh.wpList_store_at (HA5.out _) rfl 40 (.tmp 4) (.tmp 67) rfl #[.int .u8 (n.at_.node:Int),.int .i64 ((n.at_.target.length:Int)),.int .u64 (n.ino:Int),.int .i64 n.tick] rfl rfl infoSt rfl (oneSt _ _ _ _ rfl rfl rfl rfl) ?_
       intro w6 hq6 ht6 hs6
       have HQ6:=hid hq6;have HT6:=hid ht6
       clear hq6 ht6 hs6))
    have hld:=run_loadVar_row (P:=Tryz.prog) w6 w.heap.size _ 40 #[.int .u8 (n.at_.node:Int),.int .i64 ((n.at_.target.length:Int)),.int .u64 (n.ino:Int),.int .i64 n.tick] _ _ HQ6.out Tryz.underlying40 rfl infoSt
    rw[KF.out _ HZ.out]
    refine bodyPost_ret (v:= .tuple #[.agg #[.int .u8 (n.at_.node:Int),.int .i64 ((n.at_.target.length:Int)),.int .u64 (n.ino:Int),.int .i64 n.tick],.int .i64 0]) ?_ rfl ?_
    · rw[results_cell_tmp (fn:=Tryz.f10) rfl]
      show((asAddr (.pointer (some ⟨w.heap.size,0,none⟩))).run Tryz.prog _).andThen _=_
      simp only[asAddr,Sem.run_pure,Result.andThen_ok,hld]
      rfl
    · rw[←HCF.out]
      exact⟨rfl,(HB5.out _).trans (HT6.out.below (by simp) (HB5.out _).size)⟩
  have hb3:(((n.at_.node:Nat):Int)==3)=false:=by rw[beq_eq_false_iff_ne];omega
  have HH1:=hid h1;have HH2:=hid h2;have HH3:=hid h3
  clear h1 h2 h3
  have HZ:Hid (sizeT n T.L=0):=hid (by rw[sizeT,if_neg HH1.out,if_neg HH2.out,if_neg HH3.out])
  go_wp2_with (first
   |(refine wpList_maplen H4.out HN.out rfl _ rfl rfl ?_)
   |(refine Sh.wpList_load_at (T:=40) (cs:= #[.int .u8 (n.at_.node:Int),.int .i64 (0),.int .u64 (n.ino:Int),.int .i64 n.tick]) (HQ4.out) rfl 40 (.tmp 9) rfl rfl _ Tryz.underlying40 rfl infoSt ?_)
   |(refine Sh.wpList_store_at (HA4.out) rfl 40 (.tmp 4) (.tmp 67) rfl #[.int .u8 (n.at_.node:Int),.int .i64 (0),.int .u64 (n.ino:Int),.int .i64 n.tick] rfl rfl infoSt rfl (oneSt _ _ _ _ rfl rfl rfl rfl) ?_
     intro w6 hq6 ht6 hs6
     have HQ6:=hid hq6;have HT6:=hid ht6
     clear hq6 ht6 hs6))
  have hld:=run_loadVar_row (P:=Tryz.prog) w6 w.heap.size _ 40 #[.int .u8 (n.at_.node:Int),.int .i64 (0),.int .u64 (n.ino:Int),.int .i64 n.tick] _ _ HQ6.out Tryz.underlying40 rfl infoSt
  rw[KF.out _ HZ.out]
  refine bodyPost_ret (v:= .tuple #[.agg #[.int .u8 (n.at_.node:Int),.int .i64 (0),.int .u64 (n.ino:Int),.int .i64 n.tick],.int .i64 0]) ?_ rfl ?_
  · rw[results_cell_tmp (fn:=Tryz.f10) rfl]
    show((asAddr (.pointer (some ⟨w.heap.size,0,none⟩))).run Tryz.prog _).andThen _=_
    simp only[asAddr,Sem.run_pure,Result.andThen_ok,hld]
    rfl
  · rw[←HCF.out]
    exact⟨rfl,(HB45.out).trans (HT6.out.below (by simp) (HB45.out).size)⟩
end Go.Proofs.YtnmejonfdfdegaaGreatDoor.Sr
