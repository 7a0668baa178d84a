import Derived.Test.YtnmejonfdfdegaaGreatDoorZPZz
import Derived.Test.YtnmejonfdfdegaaGreatDoorZPSrSort
import Derived.Test.YtnmejonfdfdegaaGreatDoorZPStEncode
set_option linter.unusedSimpArgs false
set_option linter.unusedVariables false
set_option maxHeartbeats 16000000
set_option maxRecDepth 100000
namespace Go.Proofs.YtnmejonfdfdegaaGreatDoor.Sr
open Go.RowKit Go.Maps Go.WideMaps Rf Go.Proofs.YtnmejonfdfdegaaGreatDoor.Nm St
open Lib (hid)
abbrev XaT:TypeId:=123
structure OutAt (C:Nat) (w:World) (v:Value) (R:List (TE×Value)):Prop where
 row:w.ownsRow C VnT 11 v R.length (vrows R)
 xrow:∀ p∈R,w.ownsRow C XaT 2 p.2 p.1.at_.xs.length (xcells p.1.at_.xs)
 nod:(ob v++R.flatMap fun p=>ob p.2).Nodup
theorem OutAt.kept {C:Nat} {w w':World} {v:Value} {R:List (TE×Value)} (h:OutAt C w v R) (hb:∀ b∈ob v++R.flatMap (fun p=>ob p.2),b < w.heap.size→w'.heap[b]? =w.heap[b]?):OutAt C w' v R:=
 ⟨rowS_kept h.row (fun b hx hl=>hb b (by simp[hx]) hl),fun p hp=>rowS_kept (h.xrow p hp) (fun b hx hl=>hb b (List.mem_append_right _ (List.mem_flatMap.2 ⟨p,hp,hx⟩)) hl),h.nod⟩
theorem OutAt.below {C:Nat} {w w':World} {v:Value} {R:List (TE×Value)} (h:OutAt C w v R) (hb:Below w.heap.size w w'):OutAt C w' v R:=
 h.kept (fun b _ hl=>hb.block b hl)
theorem ob_new {w5:World} {w:World} {v v6:Value} (hx:v6.ownBlock=v.ownBlock∨v6.ownBlock=some w5.heap.size) (hs:w.heap.size≤w5.heap.size):∀ b∈ob v6,b∈ob v∨w.heap.size≤b:=by
 intro b hb
 rcases hx with hx|hx
 · left;unfold ob at hb ⊢;rw[←hx];exact hb
 · right
   unfold ob at hb
   rw[hx] at hb
   have:b=w5.heap.size:=by simpa using hb
   omega
theorem vcells_one (e:TE) {xv:Value} (hx:xv.oneCell'=true):∀ u∈vcells e xv,u.oneCell'=true:=by
 intro u hu
 simp[vcells,XA.cells] at hu
 rcases hu with rfl|rfl|rfl|rfl|rfl|rfl|rfl|rfl|rfl|rfl|rfl <;> first|rfl|exact hx
theorem out_put {C:Nat} {w w4 w5 w6:World} {v v6 x4:Value} {R:List (TE×Value)} {e:TE} (h:OutAt C w v R) (hC:C≤w.heap.size) (hb4:Below w.heap.size w w4) (hb5:Below w4.heap.size w4 w5)
 (hx:w4.ownsRow w.drew.heap.size XaT 2 x4 e.at_.xs.length (xcells e.at_.xs)) (ho:w6.ownsRow C VnT 11 v6 (R.length+1) (vrows R++vcells e x4)) (hg:w5.grownBy w6 v.ownBlock) (hv:v6.ownBlock=v.ownBlock∨v6.ownBlock=some w5.heap.size):
 OutAt C w6 v6 (R++[(e,x4)]):=by
 have hw:w.drew.heap.size=w.heap.size:=rfl
 have hvl:=rowS_lt h.row
 have hx4:∀ b∈ob x4,w.heap.size≤b∧b < w4.heap.size:=fun b hb=>⟨rowS_ge hx b hb,rowS_lt hx b hb⟩
 have hR:∀ b∈R.flatMap (fun p=>ob p.2),b < w.heap.size:=by
  intro b hb
  obtain⟨p,hp,hb⟩:=List.mem_flatMap.1 hb
  exact rowS_lt (h.xrow p hp) b hb
 have s4:=hb4.size;have s5:=hb5.size
 have nod:=h.nod
 rw[List.nodup_append] at nod
 obtain⟨n1,n2,n3⟩:=nod
 have hob:∀ b∈ob v6,b∈ob v∨b=w5.heap.size:=by
  intro b hb
  rcases hv with hv|hv
  · left;unfold ob at hb ⊢;rw[←hv];exact hb
  · right;unfold ob at hb;rw[hv] at hb;simpa using hb
 have hkeep:∀ b,b < w5.heap.size→b ∉ ob v→w6.heap[b]? =w5.heap[b]? :=fun b hl hb=>hg.block b hl (fun e=>hb (by unfold ob;rw[←e];simp))
 refine⟨?_,fun p hp=>?_,?_⟩
 · rw[List.length_append,vrows_append,show vrows [(e,x4)]=vcells e x4 by simp[vrows]]
   exact ho
 · rcases List.mem_append.1 hp with hp|hp
   · refine rowS_kept (h.xrow p hp) (fun b hb hl=>?_)
     have hbR:b∈R.flatMap (fun p=>ob p.2):=List.mem_flatMap.2 ⟨p,hp,hb⟩
     rw[hkeep b (by omega) (fun hbv=>n3 b hbv b hbR rfl),hb5.block b (by omega),hb4.block b hl]
   · rw[List.mem_singleton] at hp
     subst hp
     refine row_mono (rowS_kept hx (fun b hb hl=>?_)) hC
     rw[hkeep b (by omega) (fun hbv=>by have:=hvl b hbv;have:=(hx4 b hb).1;omega),hb5.block b hl]
 · rw[List.flatMap_append,List.nodup_append]
   have n6:(ob v6).Nodup:=by
    unfold ob;cases v6.ownBlock <;> simp
   have n4:(ob x4).Nodup:=by
    unfold ob;cases x4.ownBlock <;> simp
   refine⟨n6,?_,fun a ha b hb hab=>?_⟩
   · rw[List.nodup_append]
     refine⟨n2,by simpa using n4,fun a ha b hb hab=>?_⟩
     have hb:b∈ob x4:=by simpa using hb
     have:=hR a ha;have:=(hx4 b hb).1;omega
   · subst hab
     rcases List.mem_append.1 hb with hb|hb
     · rcases hob a ha with h1|h1
       · exact n3 a h1 a hb rfl
       · have:=hR a hb;omega
     · have hb:a∈ob x4:=by simpa using hb
       rcases hob a ha with h1|h1
       · have:=hvl a h1;have:=(hx4 a hb).1;omega
       · have:=(hx4 a hb).2;omega
def ValPost (B r:Nat) (T:Tr) (C:Nat) (w:World) (e:TE) (v:Value) (R:List (TE×Value)) (x:Ending) (w':World):Prop:=
 ∃ v' R',x= .returned v'∧R'.map (·.1)=R.map (·.1)++subT T.L e.nm∧OutAt C w' v' R'∧TreeAt B w' r T∧Turn (ob v) w w'∧(∀ b∈ob v',b∈ob v∨w.heap.size≤b)
def ValOk (B r:Nat) (T:Tr) (e:TE):Prop:=∀ (w:World),TreeAt B w r T→∀ (C:Nat) (v:Value) (R:List (TE×Value)),C≤w.heap.size→OutAt C w v R→(∀ b∈r::(ownL T.L++xobL T.L),b ∉ ob v)→R.length+(subT T.L e.nm).length≤1000000→
 Calls Tryz.prog 76 #[ptr e.p,.string ⟨(pathOf e.nm).toArray⟩,v] w (ValPost B r T C w e v R)
structure Fine (T:Tr):Prop where
 xs:∀ e∈T.L,e.at_.xs.length≤1000
 names:∀ e∈T.L,(pathOf e.nm).length≤1000000∧∀ s∈e.nm,s.length≤maxLen
 kids:∀ e∈T.L,(kidsT T.L e.nm).length≤1000000
theorem value_step (B r:Nat) (T:Tr) (hF:Fine T) (e:TE) (he:e∈T.L) (ih:∀ x∈T.L,∀ s,x.nm=e.nm++[s]→ValOk B r T x):ValOk B r T e:=by
 intro w h C v R hC ho hd hl
 have H:=hid h;have HE:=hid he;have HC:=hid hC;have HO:=hid ho;have HD:=hid hd;have IH:=hid ih
 have HKL:=hid (hF.kids e he);have HNM:=hid hF.names
 have HLN:Hid (R.length+(subT T.L e.nm).length≤1000000∧R.length+1≤1000000):=hid ⟨hl,by
  have:0 < (subT T.L e.nm).length:=List.length_pos_iff.2 (List.ne_nil_of_mem (subT_mem.2 ⟨he,[],by simp⟩))
  omega⟩
 obtain⟨i0,hi0,hz0,hz1,hz2⟩:=info_parts infoVn
 have hz3:zeroVn.cells.size=11:=by kernel_rfl
 have HBD:Hid (Below w.heap.size w w.drew):=hid (Below.refl w.heap.size w).drew
 have KS:Hid (∀ w',Turn (ob v) w w'→w'.cell? ⟨e.p,0,none⟩=some (.int .u64 (e.ino:Int))∧w'.cell? ⟨e.p,1,none⟩=some (.int .i64 e.tick)∧w'.cell? ⟨e.p,9,none⟩=some (.string ⟨e.data.toArray⟩)∧w'.rangeAt e.p 2 (e.at_.cells e.xv).toArray.toList):=hid (fun w' ht=>by
  have hc:=((h.turn ht hd).node e he).cells
  refine⟨cell_of_heap hc,cell_of_heap hc,cell_of_heap hc,fun j u hj=>?_⟩
  rw[cell_of_heap hc]
  have hj':(e.at_.cells e.xv)[j]? =some u:=by simpa using hj
  have hjl:=(List.getElem?_eq_some_iff.1 hj').1
  rw[List.getElem?_toArray,Nat.add_comm 2 j,TE.cells,List.getElem?_cons_succ,List.getElem?_cons_succ,List.getElem?_append_left hjl]
  exact hj')
 have OW:Hid (∀ w',Below w.heap.size w w'→Calls Tryz.prog 80 #[.agg (e.at_.cells e.xv).toArray] w' fun x w''=>∃ v',x= .returned (.agg #[.int .u8 (e.at_.node:Int),.int .u32 (e.at_.mode:Int),.int .u32 (e.at_.uid:Int),.int .u32 (e.at_.gid:Int),.int .i64 e.at_.mtime,.string ⟨e.at_.target.toArray⟩,v'])∧XsAt w'' v' e.at_.xs∧(∀ b∈xob e.at_.xs v',w'.heap.size≤b)∧Below w'.heap.size w' w''∧w''.ownsRow w'.heap.size XaT 2 v' e.at_.xs.length (xcells e.at_.xs)):=hid (fun w' hb=>own_own w' e.at_ e.xv ((h.below hb).node e he).xs (hF.xs e he))
 obtain⟨P,hP⟩:∃ P,P=pathOf e.nm:=⟨_,rfl⟩
 have HP:Hid (pathN e.nm=if P=[] then [47] else P):=hid (by rw[pathN,hP])
 have HPE:=hid hP
 obtain⟨va,vc,rfl⟩:=rowS_slice ho.row
 unfold ptr
 clear h he hC ho hd ih hl hF
 rw[←hP]
 clear hP
 by_cases hpe:P=[]
 · have HN:Hid (pathN e.nm=[47]):=hid (by rw[HP.out,if_pos hpe])
   have heq:(P==[])=true:=by rw[hpe];rfl
   clear hpe HP
   go_enter Tryz.func76,Tryz.ntmps76
   go_wp2
   refine wp_region_held_drew (S:=(fun w':World=>w'.cell? ⟨e.p,0,none⟩=some (.int .u64 (e.ino:Int))∧w'.cell? ⟨e.p,1,none⟩=some (.int .i64 e.tick)∧w'.cell? ⟨e.p,9,none⟩=some (.string ⟨e.data.toArray⟩)∧w'.rangeAt e.p 2 (e.at_.cells e.xv).toArray.toList)) (by kernel_rfl) (KS.out _ (Turn.of_below HBD.out)) (fun zh=>?_)
   iterate 5
    first|refine' tj 0 rfl rfl (fun _ _ _ h=>h) ?_ zh ?_|refine' tj 1 rfl rfl (fun _ _ _ h=>h) ?_ zh ?_|refine' tj 2 rfl rfl (fun _ _ _ h=>h) ?_ zh ?_|refine' tj 3 rfl rfl (fun _ _ _ h=>h) ?_ zh ?_|refine' tj 4 rfl rfl (fun _ _ _ h=>h) ?_ zh ?_
    rotate_left
    · intro wS hS;obtain⟨k0,k1,k2,k3⟩:=hS;go_simp;try rfl
    try simp only[Act.put,zA,zB,zC,zD,zE,zF]
   refine' wpAnyH_take (i:=5) (v:=_) rfl (by kernel_rfl) (by kernel_rfl) (by kernel_rfl) (fun _ _ _ h=>h) (yieldsIf_load_mid (by rfl) _ _ rfl e.p 2 rfl (e.at_.cells e.xv).toArray.toList _ ?va5S ?va5u ?va5d ?va5i) zh ?va5x
   case va5S=>intro wS hS;exact hS.2.2.2
   case va5u=>exact Tryz.underlying79
   case va5d=>rfl
   case va5i=>exact infoAt e.at_ e.xv
   try simp only[Act.put,zA,zB,zC,zD,zE,zF]
   iterate 10
    first|refine' tj 7 rfl rfl (fun _ _ _ h=>h) ?_ zh ?_|refine' tj 8 rfl rfl (fun _ _ _ h=>h) ?_ zh ?_|refine' tj 9 rfl rfl (fun _ _ _ h=>h) ?_ zh ?_|refine' tj 10 rfl rfl (fun _ _ _ h=>h) ?_ zh ?_|refine' tj 11 rfl rfl (fun _ _ _ h=>h) ?_ zh ?_|refine' tj 12 rfl rfl (fun _ _ _ h=>h) ?_ zh ?_|refine' tj 13 rfl rfl (fun _ _ _ h=>h) ?_ zh ?_|refine' tj 14 rfl rfl (fun _ _ _ h=>h) ?_ zh ?_|refine' tj 15 rfl rfl (fun _ _ _ h=>h) ?_ zh ?_|refine' tj 16 rfl rfl (fun _ _ _ h=>h) ?_ zh ?_
    rotate_left
    · intro wS hS;obtain⟨k0,k1,k2,k3⟩:=hS;go_simp;try rfl
    try simp only[Act.put,zA,zB,zC,zD,zE,zF]
   iterate 4
    first|refine' tj 17 rfl rfl (fun _ _ _ h=>h) ?_ zh ?_|refine' tj 18 rfl rfl (fun _ _ _ h=>h) ?_ zh ?_|refine' tj 19 rfl rfl (fun _ _ _ h=>h) ?_ zh ?_|refine' tj 20 rfl rfl (fun _ _ _ h=>h) ?_ zh ?_
    rotate_left
    · intro wS hS;obtain⟨k0,k1,k2,k3⟩:=hS;go_simp;try rfl
    try simp only[Act.put,zA,zB,zC,zD,zE,zF]
   refine wpAnyH_ready (rs:=[6]) (by kernel_rfl) (by simp) ?_
   refine AllReadyH.cons rfl (fun K hK=>?_) AllReadyH.nil
   go_simp
   refine(OW.out _ HBD.out).mono ?_
   rintro ex w4 ⟨v4,rfl,hx4,hf4,hb4,ho4⟩
   have HB4:Hid (Below w.heap.size w w4):=hid (HBD.out.trans (hb4.mono HBD.out.size))
   have HX4:=hid hx4;have HF4:=hid hf4;have HO4:=hid ho4
   obtain⟨a4,c4,rfl,_⟩:=hx4
   clear hf4 hb4 ho4
   go_wp2_with fail
   refine hK.out _ _ (KS.out _ (Turn.of_below HB4.out)) ?_
   clear hK K zh
   intro zh
   try simp only[Act.put,zA,zB,zC,zD,zE,zF]
   refine tk 21 rfl (v:=(.agg (vcells e (.slice a4 e.at_.xs.length c4)).toArray)) (fun _ _ _ h=>h) ?va21 zh ?_
   case va21=>
    intro wS hS
    clear hS
    unfold vcells
    rw[HN.out]
    go_simp
    try rfl
   try simp only[Act.put,zA,zB,zC,zD,zE,zF]
   refine wpAnyH_ready (rs:=[22]) (by kernel_rfl) (by simp) ?_
   refine AllReadyH.cons rfl (fun K hK=>?_) AllReadyH.nil
   refine step_wp rfl ?_
   refine wp_oneN 11 (by decide) (by decide) 107 VnT (.tmp 34) (vcells e (.slice a4 e.at_.xs.length c4)) i0 _ rfl rfl Tryz.underlying107 hi0 hz0 hz1 (vcells_len _ _) ?_
   obtain⟨w5,hw5⟩:∃ w5,w5=w4.alloc (.cells (vcells e (.slice a4 e.at_.xs.length c4)).toArray VnT):=⟨_,rfl⟩
   have HQ5:Hid (w5.heap[w4.heap.size]? =some (.cells (vcells e (.slice a4 e.at_.xs.length c4)).toArray VnT)):=hid (by rw[hw5];exact(MapKept.heap_alloc w4 _).1)
   have HB5:Hid (Below w.heap.size w w5):=hid (by rw[hw5];exact HB4.out.alloc HB4.out.size _)
   have HS5:Hid (w5.heap.size=w4.heap.size+1):=hid (by rw[hw5,one_size])
   have HB45:Hid (Below w4.heap.size w4 w5):=hid (by rw[hw5];exact(Below.refl _ _).alloc (Nat.le_refl _) _)
   rw[←hw5]
   clear hw5
   refine hK.out _ _ (KS.out _ (Turn.of_below HB5.out)) ?_
   clear hK K zh
   intro zh
   try simp only[Act.put,zA,zB,zC,zD,zE,zF]
   refine wpAnyH_ready (rs:=[23]) (by kernel_rfl) (by simp) ?_
   refine AllReadyH.cons rfl (fun K hK=>?_) AllReadyH.nil
   refine step_wp rfl ?_
   refine wp_appendN 11 (by decide) (.tmp 13) (.tmp 35) 107 rfl C VnT i0 _ 112 Tryz.underlying107 hi0 hz0 hz1 hz2 hz3 (.slice va R.length vc) R.length (vrows R) ?xava (rowS_kept HO.out.row (fun y _ hl=>HB5.out.block y hl)) ⟨w4.heap.size,0,none⟩ 1 1 (vcells e (.slice a4 e.at_.xs.length c4)) ?xbva ?xcva (vcells_len _ _) ?xdva ?xeva ?xfva ?xgva ?xhva
   case xava=>rfl
   case xbva=>rfl
   case xcva=>intro j u hj;rw[Addr.add_lit,Nat.zero_add,cell_of_heap HQ5.out,List.getElem?_toArray];exact hj
   case xdva=>exact vcells_one e rfl
   case xeva=>unfold maxLen;have:=HLN.out;omega
   case xfva=>have:=HLN.out;omega
   case xgva=>exact Nat.le_trans HC.out HB5.out.size
   intro v6 w6 ho6 hg6 hx6
   have HT6:Hid (Turn (ob (.slice va R.length vc)) w w6):=hid (turn_grown (Turn.of_below HB5.out) hg6 (fun k hk=>by simp[ob,hk]))
   have HOUT:Hid (OutAt C w6 v6 (R++[(e,.slice a4 e.at_.xs.length c4)])):=hid (out_put HO.out HC.out HB4.out HB45.out HO4.out ho6 hg6 (hx6.imp id (fun h=>h.trans rfl)))
   have HV6:Hid (∀ b∈ob v6,b∈ob (.slice va R.length vc)∨w.heap.size≤b):=hid (ob_new hx6 (Nat.le_trans HB4.out.size HB45.out.size))
   obtain⟨a6,c6,rfl⟩:=rowS_slice ho6
   clear ho6 hg6 hx6
   refine hK.out _ _ (KS.out _ HT6.out) ?_
   clear hK K zh
   intro zh
   try simp only[Act.put,zA,zB,zC,zD,zE,zF]
   refine' tk 24 rfl (fun _ _ _ h=>h) ?va24 zh ?_
   case va24=>intro wS hS;obtain⟨k0,k1,k2,k3⟩:=hS;go_simp;try rfl
   try simp only[Act.put,zA,zB,zC,zD,zE,zF]
   refine wpAnyH_done (by kernel_rfl) ?_ _
   clear zh
   try simp only[Act.put,zA,zB,zC,zD,zE,zF]
   obtain⟨R0,hR0⟩:∃ R0:List (TE×Value),R0=R++[(e,Value.slice a4 e.at_.xs.length c4)]:=⟨_,rfl⟩
   rw[←hR0] at HOUT
   have HR0L:Hid (R0.length=R.length+1):=hid (by rw[hR0];simp)
   have HR0:=hid hR0
   clear hR0
   have HTR6:Hid (TreeAt B w6 r T):=hid (H.out.turn HT6.out HD.out)
   have ck:w6.cell? ⟨e.p,10,none⟩=some (mapV e.m):=cell_of_heap (HTR6.out.node e HE.out).cells
   have KE:=hid (fun W=>Tryz.keysT e.m W)
   have SK:=kids_sorted HTR6.out HE.out HKL.out
   obtain⟨K,hK⟩:∃ K,K=(kidsT T.L e.nm).map (·.1):=⟨_,rfl⟩
   rw[←hK] at SK
   have SK:=hid SK
   have HKE:=hid hK
   clear hK
   go_wp2_with (first
    |(go_at_call 85;refine(KE.out _).mono ?_;rintro ex w7 ⟨rfl,hw7⟩;obtain rfl:=hw7)
    |(go_at_call 84;refine SK.out.mono ?_;rintro ex w8 ⟨kv,rfl,hko,hkb⟩;obtain⟨ka,kc,rfl⟩:=rowS_slice hko;have HKO:=hid hko;have HKB:=hid hkb;clear hko hkb))
   have HB68:Hid (Below w6.heap.size w6 w8):=hid (((Below.refl _ w6).alloc (Nat.le_refl _) (Obj.cells #[mapV e.m] MkT)).trans (HKB.out.mono (by rw[one_size];omega)))
   clear KE SK ck
   have HKN:Hid (∀ s∈K,s.length≤maxLen∧∃ x∈T.L,x.nm=e.nm++[s]):=hid (by
    intro s hs
    rw[HKE.out] at hs
    obtain⟨k,hk,rfl⟩:=List.mem_map.1 hs
    obtain⟨x,hx,h1,_⟩:=kidsT_mem.1 hk
    exact⟨(HNM.out x hx).2 k.1 (by rw[h1];simp),x,hx,h1⟩)
   have HO8:Hid (OutAt C w8 (.slice a6 (R.length+1) c6) R0):=hid (HOUT.out.below HB68.out)
   have HKB8:Hid (∀ b∈ob (.slice ka K.length kc),w6.heap.size≤b):=hid (fun b hb=>by have:=rowS_ge HKO.out b hb;rw[one_size] at this;omega)
   have HKO8:Hid (w8.ownsRow w.heap.size 9 1 (.slice ka K.length kc) K.length (K.map sv)):=hid (row_mono HKO.out (by rw[one_size];have:=HT6.out.size;omega))
   have HV8:Hid (∀ b∈ob (.slice a6 (R.length+1) c6),b∈ob (.slice va R.length vc)∨w.heap.size≤b):=HV6
   have HVK:Hid (∀ b∈ob (.slice a6 (R.length+1) c6),b < w6.heap.size):=hid (fun b hb=>rowS_lt HOUT.out.row b hb)
   have HSUB0:Hid (R0.map (·.1)=R.map (·.1)++e::((K.take 0).flatMap fun s=>subT T.L (e.nm++[s]))):=hid (by rw[HR0.out];simp)
   go_loopw [2,44] (fun v2 v44 wr=>∃ (i:Nat) (vy:Value) (R1:List (TE×Value)),i≤K.length∧v44= .int .i64 (i:Int)∧v2=vy∧Hid (R1.map (·.1)=R.map (·.1)++e::((K.take i).flatMap fun s=>subT T.L (e.nm++[s])))∧Hid (OutAt C wr vy R1)∧Hid (TreeAt B wr r T)∧Hid (Turn (ob (.slice va R.length vc)) w wr)∧Hid (∀ b∈ob vy,b∈ob (.slice va R.length vc)∨w.heap.size≤b)∧Hid (wr.ownsRow w.heap.size 9 1 (.slice ka K.length kc) K.length (K.map sv))∧Hid (∀ b∈ob (.slice ka K.length kc),b ∉ ob vy)) (fun _ v44 _=>K.length - (RowKit.intOf v44).toNat)
   case atStart=>exact ⟨0,_,_,by omega,rfl,rfl,HSUB0,HO8,hid (HTR6.out.below HB68.out),hid (HT6.out.trans (Turn.of_below (X:=[]) HB68.out) (fun y hy=>by cases hy)),HV8,HKO8,hid (fun b hb h=>by have:=HKB8.out b hb;have:=HVK.out b h;omega)⟩
   case round=>
    obtain⟨i,vy,R1,hi,rfl,rfl,HSUB,HOU,HTR,HT,HV,HKR,HDJ⟩:=hrel
    by_cases hil:(i:Int) < (K.length:Int)
    · have hi2:i < K.length:=by omega
      have hKl:K.length≤1000000:=by rw[HKE.out,List.length_map];exact HKL.out
      obtain⟨s,hs⟩:∃ s,K[i]? =some s:=⟨_,List.getElem?_eq_getElem hi2⟩
      obtain⟨hsl,x,hx,hxn⟩:=HKN.out s (List.mem_of_getElem? hs)
      obtain⟨gk,capk,hkv,hgk,_,_,hkc⟩:=rowS_form HKR.out (by omega)
      injection hkv with e1 e2 e3
      subst e1 e3
      have ck:wr.cell? ⟨gk,i,none⟩=some (.string ⟨s.toArray⟩):=hkc i _ (by rw[List.getElem?_map,hs];rfl)
      have ce:wr.cell? ⟨e.p,10,none⟩=some (mapV e.m):=cell_of_heap (HTR.out.node e HE.out).cells
      have HGX:Hid (getT (e.nm++[s]) T.L=some x):=hid (by rw[←hxn];exact getT_of HTR.out.srt hx)
      have HPX:Hid (pathOf x.nm=pathOf e.nm++(47::s)):=hid (by rw[hxn,pathOf,List.flatMap_append];simp[pathOf])
      have HSL:Hid (s.length≤maxLen):=hid hsl
      have HSL:Hid (s.length≤maxLen):=hid hsl
      obtain⟨Q,hQ⟩:∃ Q,Q=P++[47]:=⟨_,rfl⟩
      obtain⟨Y,hY⟩:∃ Y,Y=pathOf x.nm:=⟨_,rfl⟩
      have hcat1:(⟨P.toArray⟩:ByteArray)++⟨#[47]⟩=⟨Q.toArray⟩:=by rw[show (⟨#[47]⟩:ByteArray)=⟨[47].toArray⟩ from rfl,cat_list,hQ]
      have hcat2:(⟨Q.toArray⟩:ByteArray)++⟨s.toArray⟩=⟨Y.toArray⟩:=by rw[cat_list,hY,HPX.out,hQ,HPE.out];simp
      have hpl:=(HNM.out e HE.out).1
      rw[←HPE.out] at hpl
      unfold maxLen at hsl
      have hsz1:P.length+1≤9223372036854775807:=by omega
      have hsz2:Q.length+s.length≤9223372036854775807:=by
       have h1:=(HNM.out x hx).1
       rw[HPX.out,←HPE.out,List.length_append,List.length_cons] at h1
       rw[hQ,List.length_append,List.length_singleton];omega
      have HYX:=hid hY
      clear hQ hY hsl
      have HSN:Hid (R.map (·.1)++e::((K.take (i+1)).flatMap fun s=>subT T.L (e.nm++[s]))=R1.map (·.1)++subT T.L x.nm):=hid (by
       rw[HSUB.out,List.take_add_one,hs,hxn];simp[List.flatMap_append])
      have HLB:Hid (R1.length+(subT T.L x.nm).length≤1000000):=hid (by
       have h1:=congrArg List.length HSN.out
       rw[List.length_append,List.length_append,List.length_map,List.length_map] at h1
       rw[←h1]
       have h2:=HLN.out
       have h3:=subT_unfold HTR.out.srt (fun e he n s hn=>by obtain⟨u,hu,h1,_⟩:=HTR.out.par e he n s hn;exact⟨u,hu,h1⟩) HE.out
       have h4:(K.flatMap fun s=>subT T.L (e.nm++[s]))=(kidsT T.L e.nm).flatMap fun k=>subT T.L (e.nm++[k.1]):=by rw[HKE.out,List.flatMap_map]
       rw[←h4] at h3
       have h5:((K.take (i+1)).flatMap fun s=>subT T.L (e.nm++[s])).length≤(K.flatMap fun s=>subT T.L (e.nm++[s])).length:=by
        conv=>rhs;rw[←List.take_append_drop (i+1) K,List.flatMap_append,List.length_append]
        omega
       rw[h3] at h2
       simp only[List.length_cons] at h2 ⊢
       omega)
      have HDV:Hid (∀ b∈ob u2,b ∉ r::(ownL T.L++xobL T.L)):=hid (fun b hb hbt=>by
       rcases HV.out b hb with h1|h1
       · exact HD.out b hbt h1
       · have:=H.out.lt b hbt;omega)
      have CALL:=hid (IH.out x hx s hxn wr HTR.out C u2 R1 (Nat.le_trans HC.out HT.out.size) HOU.out (fun b hb h=>HDV.out b h hb) HLB.out)
      rw[←HYX.out] at CALL
      obtain⟨ua,uc,rfl⟩:=rowS_slice HOU.out.row
      unfold ptr at CALL
      clear hs hkc hpl
      go_wp2_with (first
       |(refine wpList_kid HTR.out HE.out s HSL.out rfl _ _ rfl rfl rfl ?_;rw[HGX.out,Option.map_some,ptrO_some,ptr])
       |fail)
      refine CALL.out.mono ?_
      rintro ex wz ⟨vz,Rz,rfl,hmz,hoz,htz,hTz,hvz⟩
      have HMZ:=hid (hmz.trans HSN.out.symm)
      have HOZ:=hid hoz;have HTZ:=hid htz
      have HTT:Hid (Turn (ob (.slice va R.length vc)) w wz):=hid (HT.out.trans hTz (fun y hy=>HV.out y hy))
      have HVZ:Hid (∀ b∈ob vz,b∈ob (.slice va R.length vc)∨w.heap.size≤b):=hid (fun b hb=>by
       rcases hvz b hb with h1|h1
       · exact HV.out b h1
       · have:=HT.out.size;right;omega)
      have HKZ:Hid (wz.ownsRow w.heap.size 9 1 (.slice (some ⟨gk,0,none⟩) K.length kc) K.length (K.map sv)):=hid (rowS_kept HKR.out (fun b hb hl=>hTz.block b hl (HDJ.out b hb)))
      have HDZ:Hid (∀ b∈ob (.slice (some ⟨gk,0,none⟩) K.length kc),b ∉ ob vz):=hid (fun b hb h=>by
       rcases hvz b h with h1|h1
       · exact HDJ.out b hb h1
       · have:=rowS_lt HKR.out b hb;omega)
      obtain⟨za,zc,rfl⟩:=rowS_slice hoz.row
      clear hmz hoz htz hTz hvz CALL
      go_wp2
      go_roundw
      case rel=>exact ⟨i+1,_,Rz,by omega,by go_num,rfl,HMZ,HOZ,HTZ,HTT,HVZ,HKZ,HDZ⟩
      case measure=>simp [RowKit.intOf];omega
    · obtain rfl:i=K.length:=by omega
      obtain⟨ua,uc,rfl⟩:=rowS_slice HOU.out.row
      have HFIN:Hid (R1.map (·.1)=R.map (·.1)++subT T.L e.nm):=hid (by
       rw[HSUB.out,List.take_length,subT_unfold HTR.out.srt (fun e he n s hn=>by obtain⟨u,hu,h1,_⟩:=HTR.out.par e he n s hn;exact⟨u,hu,h1⟩) HE.out,HKE.out,List.flatMap_map])
      go_wp2
      go_ret
      exact⟨_,R1,rfl,HFIN.out,HOU.out,HTR.out,HT.out,HV.out⟩
 · have HN:Hid (pathN e.nm=P):=hid (by rw[HP.out,if_neg hpe])
   have heq:(P==[])=false:=by rw[beq_eq_false_iff_ne];exact hpe
   clear hpe HP
   go_enter Tryz.func76,Tryz.ntmps76
   go_wp2
   refine wp_region_held_drew (S:=(fun w':World=>w'.cell? ⟨e.p,0,none⟩=some (.int .u64 (e.ino:Int))∧w'.cell? ⟨e.p,1,none⟩=some (.int .i64 e.tick)∧w'.cell? ⟨e.p,9,none⟩=some (.string ⟨e.data.toArray⟩)∧w'.rangeAt e.p 2 (e.at_.cells e.xv).toArray.toList)) (by kernel_rfl) (KS.out _ (Turn.of_below HBD.out)) (fun zh=>?_)
   iterate 5
    first|refine' tj 0 rfl rfl (fun _ _ _ h=>h) ?_ zh ?_|refine' tj 1 rfl rfl (fun _ _ _ h=>h) ?_ zh ?_|refine' tj 2 rfl rfl (fun _ _ _ h=>h) ?_ zh ?_|refine' tj 3 rfl rfl (fun _ _ _ h=>h) ?_ zh ?_|refine' tj 4 rfl rfl (fun _ _ _ h=>h) ?_ zh ?_
    rotate_left
    · intro wS hS;obtain⟨k0,k1,k2,k3⟩:=hS;go_simp;try rfl
    try simp only[Act.put,zA,zB,zC,zD,zE,zF]
   refine' wpAnyH_take (i:=5) (v:=_) rfl (by kernel_rfl) (by kernel_rfl) (by kernel_rfl) (fun _ _ _ h=>h) (yieldsIf_load_mid (by rfl) _ _ rfl e.p 2 rfl (e.at_.cells e.xv).toArray.toList _ ?vb5S ?vb5u ?vb5d ?vb5i) zh ?vb5x
   case vb5S=>intro wS hS;exact hS.2.2.2
   case vb5u=>exact Tryz.underlying79
   case vb5d=>rfl
   case vb5i=>exact infoAt e.at_ e.xv
   try simp only[Act.put,zA,zB,zC,zD,zE,zF]
   iterate 10
    first|refine' tj 7 rfl rfl (fun _ _ _ h=>h) ?_ zh ?_|refine' tj 8 rfl rfl (fun _ _ _ h=>h) ?_ zh ?_|refine' tj 9 rfl rfl (fun _ _ _ h=>h) ?_ zh ?_|refine' tj 10 rfl rfl (fun _ _ _ h=>h) ?_ zh ?_|refine' tj 11 rfl rfl (fun _ _ _ h=>h) ?_ zh ?_|refine' tj 12 rfl rfl (fun _ _ _ h=>h) ?_ zh ?_|refine' tj 13 rfl rfl (fun _ _ _ h=>h) ?_ zh ?_|refine' tj 14 rfl rfl (fun _ _ _ h=>h) ?_ zh ?_|refine' tj 15 rfl rfl (fun _ _ _ h=>h) ?_ zh ?_|refine' tj 16 rfl rfl (fun _ _ _ h=>h) ?_ zh ?_
    rotate_left
    · intro wS hS;obtain⟨k0,k1,k2,k3⟩:=hS;go_simp;try rfl
    try simp only[Act.put,zA,zB,zC,zD,zE,zF]
   iterate 4
    first|refine' tj 17 rfl rfl (fun _ _ _ h=>h) ?_ zh ?_|refine' tj 18 rfl rfl (fun _ _ _ h=>h) ?_ zh ?_|refine' tj 19 rfl rfl (fun _ _ _ h=>h) ?_ zh ?_|refine' tj 20 rfl rfl (fun _ _ _ h=>h) ?_ zh ?_
    rotate_left
    · intro wS hS;obtain⟨k0,k1,k2,k3⟩:=hS;go_simp;try rfl
    try simp only[Act.put,zA,zB,zC,zD,zE,zF]
   refine wpAnyH_ready (rs:=[6]) (by kernel_rfl) (by simp) ?_
   refine AllReadyH.cons rfl (fun K hK=>?_) AllReadyH.nil
   go_simp
   refine(OW.out _ HBD.out).mono ?_
   rintro ex w4 ⟨v4,rfl,hx4,hf4,hb4,ho4⟩
   have HB4:Hid (Below w.heap.size w w4):=hid (HBD.out.trans (hb4.mono HBD.out.size))
   have HX4:=hid hx4;have HF4:=hid hf4;have HO4:=hid ho4
   obtain⟨a4,c4,rfl,_⟩:=hx4
   clear hf4 hb4 ho4
   go_wp2_with fail
   refine hK.out _ _ (KS.out _ (Turn.of_below HB4.out)) ?_
   clear hK K zh
   intro zh
   try simp only[Act.put,zA,zB,zC,zD,zE,zF]
   refine tk 21 rfl (v:=(.agg (vcells e (.slice a4 e.at_.xs.length c4)).toArray)) (fun _ _ _ h=>h) ?vb21 zh ?_
   case vb21=>
    intro wS hS
    clear hS
    unfold vcells
    rw[HN.out]
    go_simp
    try rfl
   try simp only[Act.put,zA,zB,zC,zD,zE,zF]
   refine wpAnyH_ready (rs:=[22]) (by kernel_rfl) (by simp) ?_
   refine AllReadyH.cons rfl (fun K hK=>?_) AllReadyH.nil
   refine step_wp rfl ?_
   refine wp_oneN 11 (by decide) (by decide) 107 VnT (.tmp 34) (vcells e (.slice a4 e.at_.xs.length c4)) i0 _ rfl rfl Tryz.underlying107 hi0 hz0 hz1 (vcells_len _ _) ?_
   obtain⟨w5,hw5⟩:∃ w5,w5=w4.alloc (.cells (vcells e (.slice a4 e.at_.xs.length c4)).toArray VnT):=⟨_,rfl⟩
   have HQ5:Hid (w5.heap[w4.heap.size]? =some (.cells (vcells e (.slice a4 e.at_.xs.length c4)).toArray VnT)):=hid (by rw[hw5];exact(MapKept.heap_alloc w4 _).1)
   have HB5:Hid (Below w.heap.size w w5):=hid (by rw[hw5];exact HB4.out.alloc HB4.out.size _)
   have HS5:Hid (w5.heap.size=w4.heap.size+1):=hid (by rw[hw5,one_size])
   have HB45:Hid (Below w4.heap.size w4 w5):=hid (by rw[hw5];exact(Below.refl _ _).alloc (Nat.le_refl _) _)
   rw[←hw5]
   clear hw5
   refine hK.out _ _ (KS.out _ (Turn.of_below HB5.out)) ?_
   clear hK K zh
   intro zh
   try simp only[Act.put,zA,zB,zC,zD,zE,zF]
   refine wpAnyH_ready (rs:=[23]) (by kernel_rfl) (by simp) ?_
   refine AllReadyH.cons rfl (fun K hK=>?_) AllReadyH.nil
   refine step_wp rfl ?_
   refine wp_appendN 11 (by decide) (.tmp 13) (.tmp 35) 107 rfl C VnT i0 _ 112 Tryz.underlying107 hi0 hz0 hz1 hz2 hz3 (.slice va R.length vc) R.length (vrows R) ?xavb (rowS_kept HO.out.row (fun y _ hl=>HB5.out.block y hl)) ⟨w4.heap.size,0,none⟩ 1 1 (vcells e (.slice a4 e.at_.xs.length c4)) ?xbvb ?xcvb (vcells_len _ _) ?xdvb ?xevb ?xfvb ?xgvb ?xhvb
   case xavb=>rfl
   case xbvb=>rfl
   case xcvb=>intro j u hj;rw[Addr.add_lit,Nat.zero_add,cell_of_heap HQ5.out,List.getElem?_toArray];exact hj
   case xdvb=>exact vcells_one e rfl
   case xevb=>unfold maxLen;have:=HLN.out;omega
   case xfvb=>have:=HLN.out;omega
   case xgvb=>exact Nat.le_trans HC.out HB5.out.size
   intro v6 w6 ho6 hg6 hx6
   have HT6:Hid (Turn (ob (.slice va R.length vc)) w w6):=hid (turn_grown (Turn.of_below HB5.out) hg6 (fun k hk=>by simp[ob,hk]))
   have HOUT:Hid (OutAt C w6 v6 (R++[(e,.slice a4 e.at_.xs.length c4)])):=hid (out_put HO.out HC.out HB4.out HB45.out HO4.out ho6 hg6 (hx6.imp id (fun h=>h.trans rfl)))
   have HV6:Hid (∀ b∈ob v6,b∈ob (.slice va R.length vc)∨w.heap.size≤b):=hid (ob_new hx6 (Nat.le_trans HB4.out.size HB45.out.size))
   obtain⟨a6,c6,rfl⟩:=rowS_slice ho6
   clear ho6 hg6 hx6
   refine hK.out _ _ (KS.out _ HT6.out) ?_
   clear hK K zh
   intro zh
   try simp only[Act.put,zA,zB,zC,zD,zE,zF]
   refine' tk 24 rfl (fun _ _ _ h=>h) ?vb24 zh ?_
   case vb24=>intro wS hS;obtain⟨k0,k1,k2,k3⟩:=hS;go_simp;try rfl
   try simp only[Act.put,zA,zB,zC,zD,zE,zF]
   refine wpAnyH_done (by kernel_rfl) ?_ _
   clear zh
   try simp only[Act.put,zA,zB,zC,zD,zE,zF]
   obtain⟨R0,hR0⟩:∃ R0:List (TE×Value),R0=R++[(e,Value.slice a4 e.at_.xs.length c4)]:=⟨_,rfl⟩
   rw[←hR0] at HOUT
   have HR0L:Hid (R0.length=R.length+1):=hid (by rw[hR0];simp)
   have HR0:=hid hR0
   clear hR0
   have HTR6:Hid (TreeAt B w6 r T):=hid (H.out.turn HT6.out HD.out)
   have ck:w6.cell? ⟨e.p,10,none⟩=some (mapV e.m):=cell_of_heap (HTR6.out.node e HE.out).cells
   have KE:=hid (fun W=>Tryz.keysT e.m W)
   have SK:=kids_sorted HTR6.out HE.out HKL.out
   obtain⟨K,hK⟩:∃ K,K=(kidsT T.L e.nm).map (·.1):=⟨_,rfl⟩
   rw[←hK] at SK
   have SK:=hid SK
   have HKE:=hid hK
   clear hK
   go_wp2_with (first
    |(go_at_call 85;refine(KE.out _).mono ?_;rintro ex w7 ⟨rfl,hw7⟩;obtain rfl:=hw7)
    |(go_at_call 84;refine SK.out.mono ?_;rintro ex w8 ⟨kv,rfl,hko,hkb⟩;obtain⟨ka,kc,rfl⟩:=rowS_slice hko;have HKO:=hid hko;have HKB:=hid hkb;clear hko hkb))
   have HB68:Hid (Below w6.heap.size w6 w8):=hid (((Below.refl _ w6).alloc (Nat.le_refl _) (Obj.cells #[mapV e.m] MkT)).trans (HKB.out.mono (by rw[one_size];omega)))
   clear KE SK ck
   have HKN:Hid (∀ s∈K,s.length≤maxLen∧∃ x∈T.L,x.nm=e.nm++[s]):=hid (by
    intro s hs
    rw[HKE.out] at hs
    obtain⟨k,hk,rfl⟩:=List.mem_map.1 hs
    obtain⟨x,hx,h1,_⟩:=kidsT_mem.1 hk
    exact⟨(HNM.out x hx).2 k.1 (by rw[h1];simp),x,hx,h1⟩)
   have HO8:Hid (OutAt C w8 (.slice a6 (R.length+1) c6) R0):=hid (HOUT.out.below HB68.out)
   have HKB8:Hid (∀ b∈ob (.slice ka K.length kc),w6.heap.size≤b):=hid (fun b hb=>by have:=rowS_ge HKO.out b hb;rw[one_size] at this;omega)
   have HKO8:Hid (w8.ownsRow w.heap.size 9 1 (.slice ka K.length kc) K.length (K.map sv)):=hid (row_mono HKO.out (by rw[one_size];have:=HT6.out.size;omega))
   have HV8:Hid (∀ b∈ob (.slice a6 (R.length+1) c6),b∈ob (.slice va R.length vc)∨w.heap.size≤b):=HV6
   have HVK:Hid (∀ b∈ob (.slice a6 (R.length+1) c6),b < w6.heap.size):=hid (fun b hb=>rowS_lt HOUT.out.row b hb)
   have HSUB0:Hid (R0.map (·.1)=R.map (·.1)++e::((K.take 0).flatMap fun s=>subT T.L (e.nm++[s]))):=hid (by rw[HR0.out];simp)
   go_loopw [2,44] (fun v2 v44 wr=>∃ (i:Nat) (vy:Value) (R1:List (TE×Value)),i≤K.length∧v44= .int .i64 (i:Int)∧v2=vy∧Hid (R1.map (·.1)=R.map (·.1)++e::((K.take i).flatMap fun s=>subT T.L (e.nm++[s])))∧Hid (OutAt C wr vy R1)∧Hid (TreeAt B wr r T)∧Hid (Turn (ob (.slice va R.length vc)) w wr)∧Hid (∀ b∈ob vy,b∈ob (.slice va R.length vc)∨w.heap.size≤b)∧Hid (wr.ownsRow w.heap.size 9 1 (.slice ka K.length kc) K.length (K.map sv))∧Hid (∀ b∈ob (.slice ka K.length kc),b ∉ ob vy)) (fun _ v44 _=>K.length - (RowKit.intOf v44).toNat)
   case atStart=>exact ⟨0,_,_,by omega,rfl,rfl,HSUB0,HO8,hid (HTR6.out.below HB68.out),hid (HT6.out.trans (Turn.of_below (X:=[]) HB68.out) (fun y hy=>by cases hy)),HV8,HKO8,hid (fun b hb h=>by have:=HKB8.out b hb;have:=HVK.out b h;omega)⟩
   case round=>
    obtain⟨i,vy,R1,hi,rfl,rfl,HSUB,HOU,HTR,HT,HV,HKR,HDJ⟩:=hrel
    by_cases hil:(i:Int) < (K.length:Int)
    · have hi2:i < K.length:=by omega
      have hKl:K.length≤1000000:=by rw[HKE.out,List.length_map];exact HKL.out
      obtain⟨s,hs⟩:∃ s,K[i]? =some s:=⟨_,List.getElem?_eq_getElem hi2⟩
      obtain⟨hsl,x,hx,hxn⟩:=HKN.out s (List.mem_of_getElem? hs)
      obtain⟨gk,capk,hkv,hgk,_,_,hkc⟩:=rowS_form HKR.out (by omega)
      injection hkv with e1 e2 e3
      subst e1 e3
      have ck:wr.cell? ⟨gk,i,none⟩=some (.string ⟨s.toArray⟩):=hkc i _ (by rw[List.getElem?_map,hs];rfl)
      have ce:wr.cell? ⟨e.p,10,none⟩=some (mapV e.m):=cell_of_heap (HTR.out.node e HE.out).cells
      have HGX:Hid (getT (e.nm++[s]) T.L=some x):=hid (by rw[←hxn];exact getT_of HTR.out.srt hx)
      have HPX:Hid (pathOf x.nm=pathOf e.nm++(47::s)):=hid (by rw[hxn,pathOf,List.flatMap_append];simp[pathOf])
      have HSL:Hid (s.length≤maxLen):=hid hsl
      have HSL:Hid (s.length≤maxLen):=hid hsl
      obtain⟨Q,hQ⟩:∃ Q,Q=P++[47]:=⟨_,rfl⟩
      obtain⟨Y,hY⟩:∃ Y,Y=pathOf x.nm:=⟨_,rfl⟩
      have hcat1:(⟨P.toArray⟩:ByteArray)++⟨#[47]⟩=⟨Q.toArray⟩:=by rw[show (⟨#[47]⟩:ByteArray)=⟨[47].toArray⟩ from rfl,cat_list,hQ]
      have hcat2:(⟨Q.toArray⟩:ByteArray)++⟨s.toArray⟩=⟨Y.toArray⟩:=by rw[cat_list,hY,HPX.out,hQ,HPE.out];simp
      have hpl:=(HNM.out e HE.out).1
      rw[←HPE.out] at hpl
      unfold maxLen at hsl
      have hsz1:P.length+1≤9223372036854775807:=by omega
      have hsz2:Q.length+s.length≤9223372036854775807:=by
       have h1:=(HNM.out x hx).1
       rw[HPX.out,←HPE.out,List.length_append,List.length_cons] at h1
       rw[hQ,List.length_append,List.length_singleton];omega
      have HYX:=hid hY
      clear hQ hY hsl
      have HSN:Hid (R.map (·.1)++e::((K.take (i+1)).flatMap fun s=>subT T.L (e.nm++[s]))=R1.map (·.1)++subT T.L x.nm):=hid (by
       rw[HSUB.out,List.take_add_one,hs,hxn];simp[List.flatMap_append])
      have HLB:Hid (R1.length+(subT T.L x.nm).length≤1000000):=hid (by
       have h1:=congrArg List.length HSN.out
       rw[List.length_append,List.length_append,List.length_map,List.length_map] at h1
       rw[←h1]
       have h2:=HLN.out
       have h3:=subT_unfold HTR.out.srt (fun e he n s hn=>by obtain⟨u,hu,h1,_⟩:=HTR.out.par e he n s hn;exact⟨u,hu,h1⟩) HE.out
       have h4:(K.flatMap fun s=>subT T.L (e.nm++[s]))=(kidsT T.L e.nm).flatMap fun k=>subT T.L (e.nm++[k.1]):=by rw[HKE.out,List.flatMap_map]
       rw[←h4] at h3
       have h5:((K.take (i+1)).flatMap fun s=>subT T.L (e.nm++[s])).length≤(K.flatMap fun s=>subT T.L (e.nm++[s])).length:=by
        conv=>rhs;rw[←List.take_append_drop (i+1) K,List.flatMap_append,List.length_append]
        omega
       rw[h3] at h2
       simp only[List.length_cons] at h2 ⊢
       omega)
      have HDV:Hid (∀ b∈ob u2,b ∉ r::(ownL T.L++xobL T.L)):=hid (fun b hb hbt=>by
       rcases HV.out b hb with h1|h1
       · exact HD.out b hbt h1
       · have:=H.out.lt b hbt;omega)
      have CALL:=hid (IH.out x hx s hxn wr HTR.out C u2 R1 (Nat.le_trans HC.out HT.out.size) HOU.out (fun b hb h=>HDV.out b h hb) HLB.out)
      rw[←HYX.out] at CALL
      obtain⟨ua,uc,rfl⟩:=rowS_slice HOU.out.row
      unfold ptr at CALL
      clear hs hkc hpl
      go_wp2_with (first
       |(refine wpList_kid HTR.out HE.out s HSL.out rfl _ _ rfl rfl rfl ?_;rw[HGX.out,Option.map_some,ptrO_some,ptr])
       |fail)
      refine CALL.out.mono ?_
      rintro ex wz ⟨vz,Rz,rfl,hmz,hoz,htz,hTz,hvz⟩
      have HMZ:=hid (hmz.trans HSN.out.symm)
      have HOZ:=hid hoz;have HTZ:=hid htz
      have HTT:Hid (Turn (ob (.slice va R.length vc)) w wz):=hid (HT.out.trans hTz (fun y hy=>HV.out y hy))
      have HVZ:Hid (∀ b∈ob vz,b∈ob (.slice va R.length vc)∨w.heap.size≤b):=hid (fun b hb=>by
       rcases hvz b hb with h1|h1
       · exact HV.out b h1
       · have:=HT.out.size;right;omega)
      have HKZ:Hid (wz.ownsRow w.heap.size 9 1 (.slice (some ⟨gk,0,none⟩) K.length kc) K.length (K.map sv)):=hid (rowS_kept HKR.out (fun b hb hl=>hTz.block b hl (HDJ.out b hb)))
      have HDZ:Hid (∀ b∈ob (.slice (some ⟨gk,0,none⟩) K.length kc),b ∉ ob vz):=hid (fun b hb h=>by
       rcases hvz b h with h1|h1
       · exact HDJ.out b hb h1
       · have:=rowS_lt HKR.out b hb;omega)
      obtain⟨za,zc,rfl⟩:=rowS_slice hoz.row
      clear hmz hoz htz hTz hvz CALL
      go_wp2
      go_roundw
      case rel=>exact ⟨i+1,_,Rz,by omega,by go_num,rfl,HMZ,HOZ,HTZ,HTT,HVZ,HKZ,HDZ⟩
      case measure=>simp [RowKit.intOf];omega
    · obtain rfl:i=K.length:=by omega
      obtain⟨ua,uc,rfl⟩:=rowS_slice HOU.out.row
      have HFIN:Hid (R1.map (·.1)=R.map (·.1)++subT T.L e.nm):=hid (by
       rw[HSUB.out,List.take_length,subT_unfold HTR.out.srt (fun e he n s hn=>by obtain⟨u,hu,h1,_⟩:=HTR.out.par e he n s hn;exact⟨u,hu,h1⟩) HE.out,HKE.out,List.flatMap_map])
      go_wp2
      go_ret
      exact⟨_,R1,rfl,HFIN.out,HOU.out,HTR.out,HT.out,HV.out⟩
theorem value_any (B r:Nat) (T:Tr) (hF:Fine T) (M:Nat) (hM:∀ e∈T.L,e.nm.length≤M):∀ (k:Nat) (e:TE),e∈T.L→M≤e.nm.length+k→ValOk B r T e
 |0,e,he,hk=>value_step B r T hF e he (fun x hx s hxn=>by
   have:=hM x hx
   rw[hxn,List.length_append,List.length_singleton] at this
   omega)
 |k+1,e,he,hk=>value_step B r T hF e he (fun x hx s hxn=>value_any B r T hF M hM k x hx (by rw[hxn,List.length_append,List.length_singleton];omega))
theorem max_len (L:List TE):∃ M,∀ e∈L,e.nm.length≤M:=by
 induction L with
 |nil=>exact ⟨0,fun _ h=>by cases h⟩
 |cons y r ih=>
  obtain⟨M,h⟩:=ih
  refine⟨max M y.nm.length,fun e he=>?_⟩
  rcases List.mem_cons.1 he with rfl|he
  · omega
  · have:=h e he;omega
theorem out_nil (C:Nat) (w:World):OutAt C w (.slice none 0 0) []:=⟨rowS_nil _ _ _ _,(fun _ h=>by cases h),(by simp[ob,Value.ownBlock])⟩
def TreeVal (B r:Nat) (T:Tr) (w:World) (x:Ending) (w':World):Prop:=
 ∃ v R,x= .returned v∧R.map (·.1)=T.L∧OutAt w.heap.size w' v R∧Below w.heap.size w w'
theorem treeval_any (B:Nat) (w:World) (r:Nat) (T:Tr) (hF:Fine T) (hl:T.L.length≤1000000) (h:TreeAt B w r T):
 Calls Tryz.prog 40 #[ptr r] w (TreeVal B r T w):=by
 obtain⟨e0,he0,hq0⟩:=h.root
 obtain⟨hm0,hn0⟩:=getT_nm he0
 obtain⟨M,hM⟩:=max_len T.L
 have VA:=value_any B r T hF M hM M e0 hm0 (by omega) w h w.heap.size (.slice none 0 0) [] (Nat.le_refl _) (out_nil _ _) (fun b _ hb=>by simp[ob,Value.ownBlock] at hb) (by rw[hn0,subT_root];simpa using hl)
 rw[hn0] at VA
 have c0:w.cell? ⟨r,0,none⟩=some (ptr e0.p):=cell_of_heap hq0
 have VA:=hid VA
 have HN0:=hid hn0
 unfold ptr at*
 clear h he0 hq0 hm0 hn0 hM hF hl
 go_enter Tryz.func40,Tryz.ntmps40
 go_wp2_with fail
 refine VA.out.mono ?_
 rintro ex w1 ⟨v,R,rfl,hm,ho,_,ht,_⟩
 have HM:=hid hm;have HO:=hid ho;have HT:=hid ht
 obtain⟨a,c,rfl⟩:=rowS_slice ho.row
 clear hm ho ht VA
 go_wp2
 go_ret
 exact⟨_,R,rfl,by rw[HM.out,HN0.out,subT_root];rfl,HO.out,HT.out.below (fun y hy=>by simp[ob,Value.ownBlock] at hy) (Nat.le_refl _)⟩
end Go.Proofs.YtnmejonfdfdegaaGreatDoor.Sr
