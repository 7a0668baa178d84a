import Derived.Test.YtnmejonfdfdegaaGreatDoorZPSrAlike
import Derived.Test.YtnmejonfdfdegaaGreatDoorZPSrAttr
import Derived.Test.YtnmejonfdfdegaaGreatDoorZPSrMove
import Derived.Test.YtnmejonfdfdegaaGreatDoorZPSrIn18
import Derived.Test.YtnmejonfdfdegaaGreatDoorZPSrNew
import Derived.Test.YtnmejonfdfdegaaGreatDoorZPNmWhole
import Derived.Test.YtnmejonfdfdegaaGreatDoorZPSrSort
import Derived.Test.YtnmejonfdfdegaaGreatDoorZPSrValue
set_option linter.unusedSimpArgs false
set_option linter.unusedVariables false
set_option maxHeartbeats 8000000
set_option maxRecDepth 100000
namespace Go.Proofs.YtnmejonfdfdegaaGreatDoor.Sr
open Go.RowKit Go.Maps Go.WideMaps Rf Go.Proofs.YtnmejonfdfdegaaGreatDoor.Nm St
theorem folder_any (B:Nat) (w:World) (r:Nat) (T:Tr) (p:List UInt8) (A:XA) (v:Value) (hp:p.length≤4611686018427387904) (hv:XsAt w v A.xs) (hvr:∀ b∈xob A.xs v,b≠r) (hmost:T.most < 18446744073709551615) (h:TreeAt B w r T):
 Calls Tryz.prog 23 #[ptr r,.string ⟨p.toArray⟩,.agg (A.cells v).toArray] w fun e w'=>∃ W,Below w.heap.size w W∧TreeAt B W r T∧AddPost B W r T p [] (asFold A) e w':=by
 obtain⟨W,hW⟩:∃ W,W=w.alloc (.cells (((A.cells v).set 0 (.int .u8 2)).set 5 (.string ⟨#[]⟩)).toArray AtT):=⟨_,rfl⟩
 have q2:W.heap[w.heap.size]? =some (.cells ((asFold A).cells v).toArray AtT):=by rw[hW];exact(MapKept.heap_alloc w _).1
 have hb:Below w.heap.size w W:=by rw[hW];exact(Below.refl _ _).alloc (Nat.le_refl _) _
 have q0:(w.alloc (.cells (A.cells v).toArray AtT)).heap[w.heap.size]? =some (.cells (A.cells v).toArray AtT):=(MapKept.heap_alloc w _).1
 have hT:=h.below hb
 have hX:XsAt W v (asFold A).xs:=hv.kept hb.size (fun b hb'=>hb.block b (hv.lt b hb'))
 have AD:=Lib.hid (add_any B W r T p [] (asFold A) v hp (by simp) hX hvr hmost hT)
 have HQ2:Hid (W.heap[w.heap.size]? =some (.cells ((asFold A).cells v).toArray AtT)):=Lib.hid q2
 have HB:=Lib.hid hb;have HT:=Lib.hid hT;have HW:=Lib.hid hW
 have k0:(w.alloc (.cells (A.cells v).toArray AtT)).cell? ⟨w.heap.size,0,none⟩=some (.int .u8 (A.node:Int)):=cell_of_heap q0
 have f0:(w.alloc (.cells (A.cells v).toArray AtT)).frozen? ⟨w.heap.size,0,none⟩=false:=frozen_of_heap q0
 unfold ptr at*
 clear h hv hvr hmost hT hX q0 q2 hb hW
 go_enter Tryz.func23,Tryz.ntmps23
 go_wp2_with (first
  |(refine Sh.wpList_load_at (T:=AtT) (cs:=((asFold A).cells v).toArray) (by rw[←HW.out];exact HQ2.out) rfl AtT (.tmp 5) rfl rfl _ Tryz.underlying79 rfl (infoAt _ _) ?_)
  |fail)
 rw[←HW.out]
 refine AD.out.mono ?_
 rintro ex w1 ⟨rfl,hno,hyes⟩
 have HNO:=Lib.hid hno;have HYES:=Lib.hid hyes
 clear hno hyes AD
 go_wp2
 go_ret
 exact⟨W,HB.out,HT.out,rfl,HNO.out,HYES.out⟩
theorem ChT.reads {T T':Tr} (h:ChT T T'):T'.reads=T.reads:=by cases h <;> rfl
theorem addE_big {p d:List UInt8} {A:XA} {T:Tr} (h:1048576 < d.length):addE p d A T≠0:=by
 rw[addE]
 split
 · decide
 · rw[if_pos (.inr h)];decide
theorem splitL_16 (p:List UInt8):(splitL p).length≤16:=by
 rw[splitL]
 cases hs:splitP p with
 |none=>simp
 |some l=>
  show l.length≤_
  rw[splitP] at hs
  split at hs
  · obtain rfl:=Option.some.inj hs;simp
  · split at hs
    · next hc=>
      obtain rfl:=Option.some.inj hs
      simp only[Bool.and_eq_true,decide_eq_true_eq] at hc
      obtain⟨t,rfl⟩:=(hasPrefix_one p).1 hc.1.1
      have h2:=hc.1.2
      rw[List.count_cons_self] at h2
      rw[parts_count]
      simp only[List.drop_succ_cons,List.drop_zero]
      omega
    · cases hs
theorem write_call {B:Nat} {w w':World} {r:Nat} {T:Tr} {p d:List UInt8} {k:Nat} (h:TreeAt B w r T) (g:Good k T) (ht:TreeAt B w' r (writeT p d T)) (hu:Turn (r::ownL T.L) w w'):CallT B w r T w' (writeT p d T):=by
 have key:writeT p d T=T∨∃ n,n∈T.L∧d.length≤1048576∧T.clock < 1099511627776∧writeT p d T={T with clock:=T.clock+1,L:=tickT [n.p] ((T.clock+1:Nat):Int) (updT {n with data:=d} T.L)}:=by
  rw[writeT]
  by_cases h0:writeE p d T=0
  · rw[if_pos h0]
    cases hg:getT (splitL p) T.L with
    |none=>exact .inl rfl
    |some n=>
     refine .inr ⟨n,(getT_nm hg).1,?_,?_,rfl⟩
     · rw[writeE] at h0
       split at h0
       · cases h0
       · split at h0
         · cases h0
         · omega
     · rw[writeE,hg] at h0
       split at h0
       · cases h0
       · split at h0
         · cases h0
         · dsimp only at h0
           split at h0
           · cases h0
           · split at h0
             · cases h0
             · omega
  · rw[if_neg h0];exact .inl rfl
 rcases key with hk|⟨n,hn,hd,hc,hk⟩
 · rw[hk] at ht ⊢
   exact⟨ht,hu,fun _ h=> .inl h,.same T⟩
 · rw[hk] at ht ⊢
   have hinj:∀ x∈T.L,x.p=n.p→x=n:=fun x hx hxp=>h.p_inj hx hn hxp
   have hown:ownL (updT {n with data:=d} T.L)=ownL T.L:=ownL_map (updT_facts hinj rfl rfl rfl)
   refine⟨ht,hu,fun b hb=> .inl ?_,.upd n {n with data:=d} hn ⟨rfl,rfl,rfl,rfl,rfl,rfl⟩ hc hd (g.att n hn)⟩
   rw[List.mem_append] at hb ⊢
   rcases hb with hb|hb
   · have hb:b∈ownL (tickT [n.p] _ (updT {n with data:=d} T.L)):=hb
     rw[own_tickT,hown] at hb
     exact .inl hb
   · obtain⟨x',hx',hb⟩:=List.mem_flatMap.1 hb
     have:∃ x∈updT {n with data:=d} T.L,b∈xob x.at_.xs x.xv:=by
      obtain⟨x,hx,rfl|rfl⟩:=tickT_mem hx'
      · exact⟨_,hx,hb⟩
      · exact⟨x,hx,hb⟩
     obtain⟨x,hx,hb⟩:=this
     obtain⟨y,hy,rfl⟩:=List.mem_map.1 hx
     split at hb
     · exact .inr (List.mem_flatMap.2 ⟨n,hn,hb⟩)
     · exact .inr (List.mem_flatMap.2 ⟨y,hy,hb⟩)
def asLink (t:List UInt8) (A:XA):XA:={A with node:=3,target:=t}
theorem link_any (B:Nat) (w:World) (r:Nat) (T:Tr) (p t:List UInt8) (A:XA) (v:Value) (hp:p.length≤4611686018427387904) (ht:t.length≤4611686018427387904) (hv:XsAt w v A.xs) (hvr:∀ b∈xob A.xs v,b≠r) (hmost:T.most < 18446744073709551615) (h:TreeAt B w r T):
 Calls Tryz.prog 47 #[ptr r,.string ⟨p.toArray⟩,.string ⟨t.toArray⟩,.agg (A.cells v).toArray] w fun e w'=>∃ W,Below w.heap.size w W∧TreeAt B W r T∧AddPost B W r T p [] (asLink t A) e w':=by
 obtain⟨W,hW⟩:∃ W,W=w.alloc (.cells (((A.cells v).set 0 (.int .u8 3)).set 5 (.string ⟨t.toArray⟩)).toArray AtT):=⟨_,rfl⟩
 have q2:W.heap[w.heap.size]? =some (.cells ((asLink t A).cells v).toArray AtT):=by rw[hW];exact(MapKept.heap_alloc w _).1
 have hb:Below w.heap.size w W:=by rw[hW];exact(Below.refl _ _).alloc (Nat.le_refl _) _
 have q0:(w.alloc (.cells (A.cells v).toArray AtT)).heap[w.heap.size]? =some (.cells (A.cells v).toArray AtT):=(MapKept.heap_alloc w _).1
 have hT:=h.below hb
 have hX:XsAt W v (asLink t A).xs:=hv.kept hb.size (fun b hb'=>hb.block b (hv.lt b hb'))
 have AD:=Lib.hid (add_any B W r T p [] (asLink t A) v hp (by simp) hX hvr hmost hT)
 have HQ2:Hid (W.heap[w.heap.size]? =some (.cells ((asLink t A).cells v).toArray AtT)):=Lib.hid q2
 have HB:=Lib.hid hb;have HT:=Lib.hid hT;have HW:=Lib.hid hW
 have k0:(w.alloc (.cells (A.cells v).toArray AtT)).cell? ⟨w.heap.size,0,none⟩=some (.int .u8 (A.node:Int)):=cell_of_heap q0
 have f0:(w.alloc (.cells (A.cells v).toArray AtT)).frozen? ⟨w.heap.size,0,none⟩=false:=frozen_of_heap q0
 unfold ptr at*
 clear h hv hvr hmost hT hX q0 q2 hb hW
 go_enter Tryz.func47,Tryz.ntmps47
 go_wp2_with (first
  |(refine Sh.wpList_load_at (T:=AtT) (cs:=((asLink t A).cells v).toArray) (by rw[←HW.out];exact HQ2.out) rfl AtT (.tmp 7) rfl rfl _ Tryz.underlying79 rfl (infoAt _ _) ?_)
  |fail)
 rw[←HW.out]
 refine AD.out.mono ?_
 rintro ex w1 ⟨rfl,hno,hyes⟩
 have HNO:=Lib.hid hno;have HYES:=Lib.hid hyes
 clear hno hyes AD
 go_wp2
 go_ret
 exact⟨W,HB.out,HT.out,rfl,HNO.out,HYES.out⟩
structure Stp where
 kind:Int
 who:Int
 path:List UInt8
 more:List UInt8
 A:XA
 v:Value
def Stp.cells (x:Stp):List Value:= .int .i64 x.kind:: .int .i64 x.who:: .string ⟨x.path.toArray⟩:: .string ⟨x.more.toArray⟩::x.A.cells x.v
structure Stp.Fits (w:World) (x:Stp):Prop where
 path:x.path.length≤140737488351232
 more:x.more.length≤140737488351232
 target:x.A.target.length≤140737488351232
 xs:XsAt w x.v x.A.xs
 xl:x.A.xs.length*32≤140737488351232
def runE (x:Stp) (T:Tr):Int:=
 if x.kind=0 then addE x.path [] (asFold x.A) T
 else if x.kind=1 then addE x.path x.more (asFile x.A) T
 else if x.kind=2 then addE x.path [] (asLink x.more x.A) T
 else if x.kind=3 then writeE x.path x.more T
 else if x.kind=4 then attrE x.path x.A T
 else if x.kind=5 then xattrE x.path x.A.target x.more T
 else if x.kind=6 then clearE x.path x.A.target T
 else if x.kind=7 then moveE x.path x.more T
 else if x.kind=8 then dropE x.path T
 else if x.kind=9 then readE x.path T.L
 else 0
def AddIs (p d:List UInt8) (A:XA) (T T':Tr):Prop:=
 ∃ n u,u∈T.L∧u.nm=(splitL p).dropLast∧n.nm=splitL p∧n.ino=T.most+1∧n.at_=A∧n.data=d∧n.tick=0∧T'={T with clock:=T.clock+1,most:=T.most+1,L:=tickT [n.p,u.p] ((T.clock+1:Nat):Int) (insT n T.L)}
def SetIs (p:List UInt8) (f:TE→XA) (T T':Tr):Prop:=
 ∃ n xv,getT (splitL p) T.L=some n∧T'={T with clock:=T.clock+1,L:=tickT [n.p] ((T.clock+1:Nat):Int) (updT {n with at_:=f n,xv:=xv} T.L)}
def RunIs (x:Stp) (T T':Tr):Prop:=
 if runE x T≠0 then T'=T
 else if x.kind=0 then AddIs x.path [] (asFold x.A) T T'
 else if x.kind=1 then AddIs x.path x.more (asFile x.A) T T'
 else if x.kind=2 then AddIs x.path [] (asLink x.more x.A) T T'
 else if x.kind=3 then T'=writeT x.path x.more T
 else if x.kind=4 then SetIs x.path (fun n=>asOf x.A n) T T'
 else if x.kind=5 then SetIs x.path (fun n=>xattrA x.A.target x.more n.at_) T T'
 else if x.kind=6 then SetIs x.path (fun n=>clearA x.A.target n.at_) T T'
 else if x.kind=7 then T'=moveTr x.path x.more T
 else if x.kind=8 then T'=dropTr x.path T
 else if x.kind=9 then T'={T with reads:=T.reads+1}
 else T'=T
def RunP (B:Nat) (w:World) (r:Nat) (T:Tr) (x:Stp) (e:Ending) (w':World):Prop:=
 e= .returned (.int .i64 (runE x T))∧∃ T',TreeAt B w' r T'∧Turn (r::ownL T.L) w w'∧(∀ b∈ownL T'.L++xobL T'.L,b∈ownL T.L++xobL T.L∨w.heap.size≤b)∧ChT T {T' with reads:=T.reads}∧RunIs x T T'
theorem infoStp (x:Stp):(Tryz.prog.info? 69).map (·.size)=some x.cells.toArray.size:=by show _=some 11;kernel_rfl
theorem enc_no47 (r:Nat) (hg:goodRune r=true) (h:r≠47):∀ c∈enc r,c≠47:=by
 have hg':=hg
 simp only[goodRune,Bool.or_eq_true,Bool.and_eq_true,decide_eq_true_eq] at hg'
 have key:∀ n,n < 256→n≠47→UInt8.ofNat n≠47:=fun n h1 h2 e=>by
  have:=congrArg UInt8.toNat e
  rw[byte_ofNat h1] at this;exact h2 this
 by_cases a1:r < 128
 · rw[enc_1 a1];intro c hc;simp only[List.mem_singleton] at hc;subst hc;exact key _ (by omega) h
 by_cases a2:r < 2048
 · rw[enc_2 a1 a2];intro c hc;simp only[List.mem_cons,List.not_mem_nil,or_false] at hc
   rcases hc with rfl|rfl <;> exact key _ (by omega) (by omega)
 by_cases a3:r < 65536
 · rw[enc_3 hg a2 a3];intro c hc;simp only[List.mem_cons,List.not_mem_nil,or_false] at hc
   rcases hc with rfl|rfl|rfl <;> exact key _ (by omega) (by omega)
 · rw[enc_4 hg a3];intro c hc;simp only[List.mem_cons,List.not_mem_nil,or_false] at hc
   rcases hc with rfl|rfl|rfl|rfl <;> exact key _ (by omega) (by omega)
theorem fine_slash {a:List UInt8} (hok:okB a=true) (h:runesFine a=true):(47:UInt8) ∉ a:=by
 intro hc
 obtain⟨h1,h2⟩:=encs_runes a hok
 rw[←h1,encs,List.mem_flatMap] at hc
 obtain⟨r,hr,hc⟩:=hc
 have hf:fine r=true:=by
  obtain⟨q,hq,rfl⟩:=List.mem_map.1 hr
  exact List.all_eq_true.1 h q hq
 have h47:r≠47:=by
  rintro rfl
  cases hf
 exact enc_no47 r (h2 r hr) h47 47 hc rfl
theorem chk_slash {a:List UInt8} (h:chk a=true):∀ c∈a,c≠47:=by
 intro c hc h47
 subst h47
 simp only[chk,Bool.and_eq_true,lenFine] at h
 have h2:=h.2
 have hok:okB a=true:=h.1.1.1.1.1.1
 exact absurd hc (fine_slash hok h2)
theorem parts_path:∀ {n:PN},n≠[]→(∀ s∈n,chk s=true)→parts ((pathOf n).drop 1)=n
 |[],h,_=>absurd rfl h
 |[a],_,h=>by
  have h1:=chk_slash (h a (by simp))
  rw[pathOf,List.flatMap_cons,List.flatMap_nil,List.append_nil,List.drop_succ_cons,List.drop_zero]
  exact parts_none a h1
 |a::b::r,_,h=>by
  have h1:=chk_slash (h a (by simp))
  have ih:=parts_path (n:=b::r) (by simp) (fun s hs=>h s (List.mem_cons_of_mem _ hs))
  have e:(pathOf (a::b::r)).drop 1=a++47::((pathOf (b::r)).drop 1):=by
   simp[pathOf,List.flatMap_cons]
  rw[e,parts_hit _ _ h1,ih]
theorem path_count:∀ {n:PN},(∀ s∈n,chk s=true)→(pathOf n).count 47=n.length
 |[],_=>rfl
 |a::r,h=>by
  have h1:=chk_slash (h a (by simp))
  have ih:=path_count (n:=r) (fun s hs=>h s (List.mem_cons_of_mem _ hs))
  rw[pathOf] at ih ⊢
  rw[List.flatMap_cons,List.count_append,List.count_cons_self,ih,List.count_eq_zero.2 (fun hc=>h1 47 hc rfl),List.length_cons]
  omega
theorem split_path {n:PN} (hl:n.length≤16) (h:∀ s∈n,chk s=true):splitP (pathN n)=some n:=by
 cases n with
 |nil=>rfl
 |cons a r=>
  have hne:pathOf (a::r)≠[]:=by simp[pathOf,List.flatMap_cons]
  rw[pathN,if_neg hne]
  have h47:pathOf (a::r)≠[47]:=by
   have ha:=(chk_le (h a (by simp))).2
   intro he
   rw[pathOf,List.flatMap_cons] at he
   simp at he
   exact ha he.1
  rw[splitP,if_neg h47,if_pos]
  · rw[parts_path (by simp) h]
  · rw[parts_path (by simp) h,path_count h]
    simp only[Bool.and_eq_true,decide_eq_true_eq]
    refine⟨⟨(hasPrefix_one _).2 ⟨a++pathOf r,by simp[pathOf,List.flatMap_cons]⟩,hl⟩,List.all_eq_true.2 h⟩
theorem Good.split {k:Nat} {T:Tr} (h:Good k T) {e:TE} (he:e∈T.L):splitE (pathN e.nm)=0∧splitL (pathN e.nm)=e.nm:=by
 have:=split_path (h.deep e he) (h.names e he)
 rw[splitE,splitL,this];exact⟨rfl,rfl⟩
structure HonRel (T:Tr) (X:List SE) (D:MV (List UInt8)) (K:MV (Nat×Int)):Prop where
 srt:Srt X
 keyD:∀ p,(getM D p).isSome=(getL p X).isSome
 ent:∀ e∈X,∃ b,getM D e.path=some b∧getM K e.path=some (e.ino,e.tick)∧e.node=1∧e.size=(b.length:Int)∧e.ino≤T.most∧e.tick≤(T.clock:Int)∧∀ x∈T.L,x.ino=e.ino→x.tick=e.tick→x.data=b∧x.at_.node=1
theorem HonRel.hist {T T':Tr} {X:List SE} {D:MV (List UInt8)} {K:MV (Nat×Int)} (h:HonRel T X D K) (hh:Hist T T'):HonRel T' X D K:=by
 refine⟨h.srt,h.keyD,fun e he=>?_⟩
 obtain⟨b,h1,h2,h3,h4,h5,h6,h7⟩:=h.ent e he
 refine⟨b,h1,h2,h3,h4,Nat.le_trans h5 hh.most,Int.le_trans h6 (by have:=hh.clock;omega),fun x' hx' hi ht=>?_⟩
 rcases hh.node x' hx' with⟨x,hx,e1,e2,e3,e4⟩|⟨e1,_⟩
 · have:=h7 x hx (by rw[←e1,hi]) (by rw[←e4,ht])
   rw[e2,e3];exact this
 · rw[e1] at ht;omega
theorem HonRel.nil (T:Tr):HonRel T [] [] []:=⟨List.Pairwise.nil,fun _=>rfl,fun _ h=>by cases h⟩
theorem tickT_map (c:Int):∀ (qs:List Nat) (L:List TE),tickT qs c L=L.map fun x=>if x.p∈qs then {x with tick:=c} else x
 |[],L=>by
  show L=_
  simp
 |q::r,L=>by
  show tickT r c (tick1 q c L)=_
  rw[tickT_map c r,tick1,List.map_map]
  refine List.map_congr_left (fun x _=>?_)
  show(if (if x.p=q then({x with tick:=c}:TE) else x).p∈r then _ else _)=_
  by_cases h:x.p=q
  · simp[h]
  · simp[h]
theorem kids_tickT (c:Int) (qs:List Nat) (L:List TE) (n:PN):kidsT (tickT qs c L) n=kidsT L n:=by
 rw[tickT_map]
 refine kidsT_map (fun e _=>?_) (fun e _=>?_) n <;> (split <;> rfl)
def Was (T T':Tr):Prop:=
 ∀ x'∈T'.L,(∃ x∈T.L,x'.ino=x.ino∧x'.data=x.data∧x'.at_=x.at_∧x'.tick=x.tick∧kidsT T'.L x'.nm=kidsT T.L x.nm)∨
   (x'.tick=((T.clock+1:Nat):Int)∧T'.clock=T.clock+1∧((∃ x∈T.L,x'.ino=x.ino)∨x'.ino=T.most+1))
theorem ChT.was {B:Nat} {w:World} {r:Nat} {T T':Tr} (hT:TreeAt B w r T) (h:ChT T T'):Was T T':=by
 intro x' hx'
 cases h with
 |same=>exact .inl ⟨x',hx',rfl,rfl,rfl,rfl,rfl⟩
 |add n u hu hun hno hi ht hc hd ha hnm=>
  have hk:=kids_tickT ((T.clock+1:Nat):Int) [n.p,u.p] (insT n T.L)
  have hx2:x'∈tickT [n.p,u.p] ((T.clock+1:Nat):Int) (insT n T.L):=hx'
  show(∃ x∈T.L,_∧_∧_∧_∧kidsT (tickT [n.p,u.p] _ (insT n T.L)) x'.nm=_)∨_
  rw[hk]
  rw[tickT_map] at hx2
  obtain⟨y,hy,rfl⟩:=List.mem_map.1 hx2
  by_cases hq:y.p∈[n.p,u.p]
  · rw[if_pos hq]
    refine .inr ⟨rfl,rfl,?_⟩
    rcases mem_insT.1 hy with rfl|hy
    · exact .inr hi
    · exact .inl ⟨y,hy,rfl⟩
  · rw[if_neg hq]
    have hyT:y∈T.L:=by
     rcases mem_insT.1 hy with rfl|hy
     · exact absurd (by simp) hq
     · exact hy
    refine .inl ⟨y,hyT,rfl,rfl,rfl,rfl,kids_put_other (fun s hs=>?_)⟩
    have hyu:y.nm=u.nm:=by rw[hun.2,hs];simp
    have:=srtT_inj hT.srt hyT hu hyu
    exact hq (by rw[this];simp)
 |upd n n' hn hs hc hd ha=>
  have hinj:∀ x∈T.L,x.p=n.p→x=n:=fun x hx hxp=>hT.p_inj hx hn hxp
  have hf:=updT_facts (e':=n') hinj hs.1 hs.2.2.1 hs.2.2.2.1
  have hk:∀ m,kidsT (tickT [n.p] ((T.clock+1:Nat):Int) (updT n' T.L)) m=kidsT T.L m:=fun m=>by
   rw[kids_tickT,updT]
   exact kidsT_map (fun e he=>(hf e he).1) (fun e he=>(hf e he).2.1) m
  have hx2:x'∈tickT [n.p] ((T.clock+1:Nat):Int) (updT n' T.L):=hx'
  show(∃ x∈T.L,_∧_∧_∧_∧kidsT (tickT [n.p] _ (updT n' T.L)) x'.nm=_)∨_
  rw[hk]
  rw[tickT_map] at hx2
  obtain⟨y,hy,rfl⟩:=List.mem_map.1 hx2
  obtain⟨x,hx,rfl⟩:=List.mem_map.1 hy
  by_cases hp:x.p=n'.p
  · rw[if_pos hp,if_pos (by rw[hs.2.2.1];simp)]
    exact .inr ⟨rfl,rfl,.inl ⟨n,hn,hs.2.1⟩⟩
  · rw[if_neg hp,if_neg (by rw[←hs.2.2.1];simpa using hp)]
    exact .inl ⟨x,hx,rfl,rfl,rfl,rfl,rfl⟩
 |del n u hn hne hu hun hc=>
  have hx2:x'∈tickT [u.p] ((T.clock+1:Nat):Int) (dropT n.nm T.L):=hx'
  show(∃ x∈T.L,_∧_∧_∧_∧kidsT (tickT [u.p] _ (dropT n.nm T.L)) x'.nm=_)∨_
  rw[kids_tickT]
  rw[tickT_map] at hx2
  obtain⟨y,hy,rfl⟩:=List.mem_map.1 hx2
  obtain⟨hyT,hyn⟩:=dropT_mem.1 hy
  by_cases hq:y.p∈[u.p]
  · rw[if_pos hq]
    exact .inr ⟨rfl,rfl,.inl ⟨y,hyT,rfl⟩⟩
  · rw[if_neg hq]
    refine .inl ⟨y,hyT,rfl,rfl,rfl,rfl,?_⟩
    have hnn:=(List.dropLast_concat_getLast hne).symm
    rw[hnn] at hyn ⊢
    rw[kids_drop hT.srt hyn,if_neg]
    intro hy0
    have:=srtT_inj hT.srt hyT hu (hy0.trans hun.symm)
    exact hq (by rw[this];simp)
 |move a0 b0 sa sb n u d k hu hun hc hb hnm=>
  have hx2:x'∈tickT [u.p,d.p] ((T.clock+1:Nat):Int) (moveT (a0++[sa]) (b0++[sb]) T.L):=hx'
  show(∃ x∈T.L,_∧_∧_∧_∧kidsT (tickT [u.p,d.p] _ (moveT (a0++[sa]) (b0++[sb]) T.L)) x'.nm=_)∨_
  rw[kids_tickT]
  rw[tickT_map] at hx2
  obtain⟨y,hy,rfl⟩:=List.mem_map.1 hx2
  obtain⟨x,hx,rfl⟩:=moveT_mem.1 hy
  have hpar:=hT.parT
  by_cases hq:(renE (renP (a0++[sa]) (b0++[sb])) x).p∈[u.p,d.p]
  · rw[if_pos hq]
    exact .inr ⟨rfl,rfl,.inl ⟨x,hx,rfl⟩⟩
  · rw[if_neg hq]
    refine .inl ⟨x,hx,rfl,rfl,rfl,rfl,?_⟩
    show kidsT _ (renP _ _ x.nm)=_
    by_cases h3:(a0++[sa]) <+:x.nm
    · obtain⟨t,ht⟩:=h3
      rw[←ht,renP_in,kids_moved k hT.srt hpar]
    · have h1:x.nm≠b0:=fun h=>hq (by
       have:=srtT_inj hT.srt hx k.dmem (h.trans k.dname.symm)
       show x.p∈_
       rw[this];simp)
      have h2:x.nm≠a0:=fun h=>hq (by
       have:=srtT_inj hT.srt hx hu (h.trans hun.symm)
       show x.p∈_
       rw[this];simp)
      rw[renP_out h3,kids_stay k hT.srt hpar hx h3,kidM,if_neg h1,if_neg h2]
def namesT (L:List TE) (n:PN):List (List UInt8):=(kidsT L n).map (·.1)
def chgd (x:Stp) (T:Tr):Bool:=decide (runE x T=0) && (decide (0≤x.kind) && decide (x.kind≤8))
structure RunF (x:Stp) (T T':Tr):Prop where
 yes:chgd x T=true→T'.clock=T.clock+1
 no:chgd x T=false→T'.L=T.L∧T'.clock=T.clock
 reads:T'.reads=T.reads+if runE x T=0∧x.kind=9 then 1 else 0
theorem writeT_clock {p d:List UInt8} {T:Tr} (h:writeE p d T=0):(writeT p d T).clock=T.clock+1∧(writeT p d T).reads=T.reads:=by
 rw[writeT,if_pos h]
 cases hg:getT (splitL p) T.L with
 |none=>
  rw[writeE,hg] at h
  split at h
  · cases h
  · split at h
    · cases h
    · cases h
 |some n=>exact ⟨rfl,rfl⟩
theorem moveTr_clock {B:Nat} {w:World} {r:Nat} {p q:List UInt8} {T:Tr} (hT:TreeAt B w r T) (h:moveE p q T=0):(moveTr p q T).clock=T.clock+1∧(moveTr p q T).reads=T.reads:=by
 rw[moveTr,if_pos h]
 rw[moveE] at h
 split at h
 · cases h
 · split at h
   · cases h
   · cases hg:getT (splitL p) T.L with
     |none=>rw [hg] at h;cases h
     |some n=>
      rw[hg] at h
      dsimp only at h
      split at h
      · cases h
      · next hne=>
        split at h
        · cases h
        · split at h
          · next ha=>exact absurd h ha
          · next ha=>
            have hpn:splitL p≠[]:=fun e=>hne (.inl e)
            obtain⟨hn,hnm⟩:=getT_nm hg
            obtain⟨u,_,_,_,_,_,_,hu,_⟩:=hT.up hn (by rw[hnm];exact hpn)
            rw[hnm] at hu
            have ha:abvE (splitL q) T.L=0:=Classical.not_not.1 ha
            rw[abvE] at ha
            cases hd:getT (splitL q).dropLast T.L with
            |none=>rw [hd] at ha;cases ha
            |some d=>rw [hu];exact⟨rfl,rfl⟩
theorem dropTr_clock {B:Nat} {w:World} {r:Nat} {p:List UInt8} {T:Tr} (hT:TreeAt B w r T) (h:dropE p T=0):(dropTr p T).clock=T.clock+1∧(dropTr p T).reads=T.reads:=by
 rw[dropTr,if_pos h]
 rw[dropE] at h
 split at h
 · cases h
 · cases hg:getT (splitL p) T.L with
   |none=>rw [hg] at h;cases h
   |some n=>
    rw[hg] at h
    dsimp only at h
    split at h
    · cases h
    · next hpn=>
      obtain⟨hn,hnm⟩:=getT_nm hg
      obtain⟨u,_,_,_,_,_,_,hu,_⟩:=hT.up hn (by rw[hnm];exact hpn)
      rw[hnm] at hu
      rw[hu];exact⟨rfl,rfl⟩
theorem RunIs.facts {B:Nat} {w:World} {r:Nat} {x:Stp} {T T':Tr} (hT:TreeAt B w r T) (h:RunIs x T T'):RunF x T T':=by
 unfold RunIs at h
 by_cases h0:runE x T=0
 case neg=>
  rw[if_pos h0] at h
  subst h
  have hc:chgd x T'=false:=by rw[chgd,decide_eq_false h0,Bool.false_and]
  exact⟨(fun hy=>by rw[hc] at hy;cases hy),fun _=>⟨rfl,rfl⟩,by rw[if_neg (fun h=>h0 h.1)];rfl⟩
 rw[if_neg (by simp[h0])] at h
 have key:∀ (_:0≤x.kind∧x.kind≤8) (_:T'.clock=T.clock+1∧T'.reads=T.reads),RunF x T T':=fun hk hT=>by
  have hc:chgd x T=true:=by rw[chgd,decide_eq_true h0,decide_eq_true hk.1,decide_eq_true hk.2];rfl
  exact⟨fun _=>hT.1,(fun hn=>by rw[hc] at hn;cases hn),by rw[if_neg (fun h=>by omega)];exact hT.2⟩
 have kee:¬ (0≤x.kind∧x.kind≤8)→chgd x T=false:=fun hk=>by
  cases hc:chgd x T with
  |false=>rfl
  |true=>
   simp only[chgd,Bool.and_eq_true,decide_eq_true_eq] at hc
   exact absurd hc.2 hk
 have add:∀ {p d:List UInt8} {A:XA},AddIs p d A T T'→T'.clock=T.clock+1∧T'.reads=T.reads:=by
  rintro p d A ⟨n,u,_,_,_,_,_,_,_,rfl⟩;exact⟨rfl,rfl⟩
 have set:∀ {p:List UInt8} {f:TE→XA},SetIs p f T T'→T'.clock=T.clock+1∧T'.reads=T.reads:=by
  rintro p f ⟨n,xv,_,rfl⟩;exact⟨rfl,rfl⟩
 have e:=h0
 unfold runE at e
 by_cases k0:x.kind=0
 · rw[if_pos k0] at h;exact key (by omega) (add h)
 rw[if_neg k0] at h e
 by_cases k1:x.kind=1
 · rw[if_pos k1] at h;exact key (by omega) (add h)
 rw[if_neg k1] at h e
 by_cases k2:x.kind=2
 · rw[if_pos k2] at h;exact key (by omega) (add h)
 rw[if_neg k2] at h e
 by_cases k3:x.kind=3
 · rw[if_pos k3] at h e;subst h;exact key (by omega) (writeT_clock e)
 rw[if_neg k3] at h e
 by_cases k4:x.kind=4
 · rw[if_pos k4] at h;exact key (by omega) (set h)
 rw[if_neg k4] at h e
 by_cases k5:x.kind=5
 · rw[if_pos k5] at h;exact key (by omega) (set h)
 rw[if_neg k5] at h e
 by_cases k6:x.kind=6
 · rw[if_pos k6] at h;exact key (by omega) (set h)
 rw[if_neg k6] at h e
 by_cases k7:x.kind=7
 · rw[if_pos k7] at h e;subst h;exact key (by omega) (moveTr_clock hT e)
 rw[if_neg k7] at h e
 by_cases k8:x.kind=8
 · rw[if_pos k8] at h e;subst h;exact key (by omega) (dropTr_clock hT e)
 rw[if_neg k8] at h e
 by_cases k9:x.kind=9
 · rw[if_pos k9] at h;subst h
   have hc:=kee (by omega)
   exact⟨(fun hy=>by rw[hc] at hy;cases hy),fun _=>⟨rfl,rfl⟩,by rw[if_pos ⟨h0,k9⟩]⟩
 · rw[if_neg k9] at h;subst h
   have hc:=kee (by omega)
   exact⟨(fun hy=>by rw[hc] at hy;cases hy),fun _=>⟨rfl,rfl⟩,by rw[if_neg (fun h=>k9 h.2)];rfl⟩
structure HnSt (B:Nat) (w:World) (r:Nat) (T:Tr) (v0:Value) (R0:List (TE×Value)) (g k:Nat):Prop where
 tree:TreeAt B w r T
 good:Good k T
 reads:T.reads≤k
 out:OutAt B w v0 R0
 map:R0.map (·.1)=T.L
 sep:∀ x∈r::(ownL T.L++xobL T.L),x ∉ ob v0++R0.flatMap (fun p=>ob p.2)
 most:g≤T.most
theorem OutAt.mono {C C':Nat} {w:World} {v:Value} {R:List (TE×Value)} (h:OutAt C w v R) (hc:C'≤C):OutAt C' w v R:=
 ⟨row_mono h.row hc,fun p hp=>row_mono (h.xrow p hp) hc,h.nod⟩
theorem OutAt.lt {C:Nat} {w:World} {v:Value} {R:List (TE×Value)} (h:OutAt C w v R):∀ b∈ob v++R.flatMap (fun p=>ob p.2),C≤b∧b < w.heap.size:=by
 intro b hb
 rcases List.mem_append.1 hb with hb|hb
 · exact⟨rowS_ge h.row b hb,rowS_lt h.row b hb⟩
 · obtain⟨p,hp,hb⟩:=List.mem_flatMap.1 hb
   exact⟨rowS_ge (h.xrow p hp) b hb,rowS_lt (h.xrow p hp) b hb⟩
theorem told_apart {B':Nat} {w w':World} {r:Nat} {T:Tr} {v:Value} {R:List (TE×Value)} (hT:TreeAt B' w r T) (h:OutAt w.heap.size w' v R):∀ x∈r::(ownL T.L++xobL T.L),x ∉ ob v++R.flatMap (fun p=>ob p.2):=by
 intro x hx hb
 have h1:=hT.lt x hx
 have h2:=(h.lt x hb).1
 omega
section
variable {B:Nat} {w w':World} {r:Nat} {T:Tr} {v0:Value} {R0:List (TE×Value)} {g k:Nat}
theorem HnSt.below (h:HnSt B w r T v0 R0 g k) (hb:Below w.heap.size w w'):HnSt B w' r T v0 R0 g k:=
 ⟨h.tree.below hb,h.good,h.reads,h.out.below hb,h.map,h.sep,h.most⟩
structure HnRun (B:Nat) (w':World) (r:Nat) (T T':Tr) (v0:Value) (R0:List (TE×Value)) (k:Nat) (x:Stp):Prop where
 tree:TreeAt B w' r T'
 good:Good (k+1) T'
 reads:T'.reads≤k+1
 out:OutAt B w' v0 R0
 was:Was T T'
 most:T.most≤T'.most
 facts:RunF x T T'
theorem HnSt.run (h:HnSt B w r T v0 R0 g k) {x:Stp} {e:Ending} (hp:RunP B w r T x e w') (hB:B≤w.heap.size):e= .returned (.int .i64 (runE x T))∧∃ T',HnRun B w' r T T' v0 R0 k x∧Below B w w':=by
 obtain⟨he,T',htr,htu,how,hch,hri⟩:=hp
 have hF:=hri.facts h.tree
 have hG:=ChT.good h.tree hch h.good
 refine⟨he,T',⟨htr,⟨hG.deep,hG.names,hG.att,hG.data,hG.ino,hG.inos,hG.tick,hG.clock,hG.most,hG.len⟩,?_,h.out.kept (fun b hb hl=>htu.block b hl (fun hx=>?_)),(show Was T {T' with reads:=T.reads} from ChT.was h.tree hch),hch.hist.most,hF⟩,htu.below (fun x hx=>h.tree.base x ?_) hB⟩
 · rw[hF.reads];have:=h.reads;split <;> omega
 · refine h.sep b ?_ hb
   rw[List.mem_cons] at hx ⊢
   exact hx.imp id (fun h=>List.mem_append_left _ h)
 · rw[List.mem_cons] at hx ⊢
   exact hx.imp id (fun h=>List.mem_append_left _ h)
theorem HnRun.next {T':Tr} {x:Stp} (h:HnRun B w r T T' v0 R0 k x) {v1:Value} {R1:List (TE×Value)} (hm:R1.map (·.1)=T'.L) (ho:OutAt w.heap.size w' v1 R1) (hb:Below w.heap.size w w') (hB:B≤w.heap.size) {g':Nat} (hg:g'≤T'.most):HnSt B w' r T' v1 R1 g' (k+1):=
 ⟨h.tree.below hb,h.good,h.reads,ho.mono hB,hm,told_apart h.tree ho,hg⟩
end
end Go.Proofs.YtnmejonfdfdegaaGreatDoor.Sr
namespace Go.Proofs.YtnmejonfdfdegaaGreatDoor.Sr
open Go.RowKit Rf Go.Proofs.YtnmejonfdfdegaaGreatDoor.Nm St
theorem srt_untick {L:List TE} {q:Nat} {c:Int} (hs:SrtT (tick1 q c L)):SrtT L:=by
 rw[SrtT,tick1,List.pairwise_map] at hs
 refine List.Pairwise.imp ?_ hs
 intro a b hab
 have hab:ahd (if a.p=q then({a with tick:=c}:TE) else a).nm (if b.p=q then({b with tick:=c}:TE) else b).nm=true:=hab
 have h1:(if a.p=q then({a with tick:=c}:TE) else a).nm=a.nm:=by split <;> rfl
 have h2:(if b.p=q then({b with tick:=c}:TE) else b).nm=b.nm:=by split <;> rfl
 rw[h1,h2] at hab;exact hab
theorem srt_unticks {c:Int}:∀ {qs:List Nat} {L:List TE},SrtT (tickT qs c L)→SrtT L
 |[],_,h=>h
 |_::_,_,h=>srt_untick (srt_unticks (L:=tick1 _ _ _) h)
end Go.Proofs.YtnmejonfdfdegaaGreatDoor.Sr
namespace Go.Proofs.YtnmejonfdfdegaaGreatDoor.Sr
open Go.RowKit Go.Maps Go.WideMaps Rf Go.Proofs.YtnmejonfdfdegaaGreatDoor.Nm St
open Lib (hid)
def listE (p:List UInt8) (L:List TE):Int:=
 if splitE p≠0 then 10 else match getT (splitL p) L with
  |none=>6
  |some n=>if n.at_.node≠2 then 11 else 0
def listN (p:List UInt8) (L:List TE):List (List UInt8):=if listE p L=0 then namesT L (splitL p) else []
def ListPost (w:World) (p:List UInt8) (L:List TE) (e:Ending) (w':World):Prop:=
 ∃ v,e= .returned (.tuple #[v,.int .i64 (listE p L)])∧w'.ownsRow w.heap.size 9 1 v (listN p L).length ((listN p L).map sv)∧Below w.heap.size w w'
theorem list_any (B:Nat) (w:World) (r:Nat) (T:Tr) (p:List UInt8) (hp:p.length≤4611686018427387904) (hK:∀ e∈T.L,(kidsT T.L e.nm).length≤1000000) (h:TreeAt B w r T):
 Calls Tryz.prog 57 #[ptr r,.string ⟨p.toArray⟩] w (ListPost w p T.L):=by
 have FI:=hid (find_any B w r T p hp h)
 have H:=hid h;have HK:=hid hK
 clear h hK
 unfold ptr at*
 go_enter Tryz.func57,Tryz.ntmps57
 go_wp2_with fail
 refine FI.out.mono ?_
 rintro ex w1 ⟨v,rfl,hp1,hb1⟩
 have HB:=hid hb1
 obtain⟨va,vc,rfl⟩:=rowS_slice hp1.row
 clear FI hp1 hb1
 rw[findE,findN]
 rcases splitE_cases p with h0|⟨h0,_⟩
 case inr=>
  have hc:listE p T.L=10:=by rw[listE,if_pos (by rw[h0];decide)]
  have hd:listN p T.L=[]:=by rw[listN,if_neg (by rw[hc];decide)]
  rw[if_neg (by rw[h0];decide),if_neg (by rw[h0];decide)]
  have HC:=hid hc;have HD:=hid hd
  unfold ptrO
  clear h0 hc hd
  go_wp2
  go_ret2
  exact⟨_,by rw[HC.out];rfl,by rw[HD.out];exact rowS_nil _ _ _ _,HB.out⟩
 rw[if_pos h0,if_pos h0]
 have HE1:Hid (listE p T.L=match getT (splitL p) T.L with
  |none=>6
  |some n=>if n.at_.node≠2 then 11 else 0):=hid (by rw[listE,if_neg (by rw[h0];decide)])
 clear h0
 cases hg:getT (splitL p) T.L with
 |none=>
  have hc:listE p T.L=6:=by rw[HE1.out,hg]
  have hd:listN p T.L=[]:=by rw[listN,if_neg (by rw[hc];decide)]
  have HC:=hid hc;have HD:=hid hd
  unfold ptrO
  clear hg hc hd HE1
  go_wp2
  go_ret2
  exact⟨_,by rw[HC.out];rfl,by rw[HD.out];exact rowS_nil _ _ _ _,HB.out⟩
 |some n=>
  obtain⟨hn,hnm⟩:=getT_nm hg
  have HN:=hid hn
  have HT1:=hid (H.out.below HB.out)
  have nd:=(HT1.out.node n hn).cells
  have c2:w1.cell? ⟨n.p,2,none⟩=some (.int .u8 (n.at_.node:Int)):=cell_of_heap nd
  by_cases h2:n.at_.node=2
  case neg=>
   have hc:listE p T.L=11:=by rw[HE1.out,hg];exact if_pos h2
   have hd:listN p T.L=[]:=by rw[listN,if_neg (by rw[hc];decide)]
   have HC:=hid hc;have HD:=hid hd
   have hb:(((n.at_.node:Nat):Int)==2)=false:=by rw[beq_eq_false_iff_ne];omega
   have hb2:(((n.at_.node:Nat):Int) !=2)=true:=by rw[bne,hb];rfl
   unfold ptrO
   clear hg hc hd HE1 h2 nd hn hnm
   go_wp2
   go_ret2
   exact⟨_,by rw[HC.out];rfl,by rw[HD.out];exact rowS_nil _ _ _ _,HB.out⟩
  have hc:listE p T.L=0:=by rw[HE1.out,hg];exact if_neg (by simp[h2])
  have hd:listN p T.L=(kidsT T.L n.nm).map (·.1):=by rw[listN,if_pos hc,namesT,hnm]
  have HC:=hid hc;have HD:=hid hd
  have ck:w1.cell? ⟨n.p,10,none⟩=some (mapV n.m):=cell_of_heap nd
  have KE:=hid (fun W=>Tryz.keysT n.m W)
  have SK:=kids_sorted HT1.out HN.out (HK.out n hn)
  obtain⟨K,hKd⟩:∃ K,K=(kidsT T.L n.nm).map (·.1):=⟨_,rfl⟩
  rw[←hKd] at SK hd
  have SK:=hid SK
  have HD2:=hid hd
  rw[h2] at c2
  unfold ptrO
  clear hg hc hd HE1 h2 nd hn hnm hKd HD
  go_wp2_with (first
   |(go_at_call 85;refine(KE.out _).mono ?_;rintro ex w7 ⟨rfl,hw7⟩;obtain rfl:=hw7)
   |(go_at_call 84;refine SK.out.mono ?_;rintro ex w8 ⟨kv,rfl,hko,hkb⟩;obtain⟨ka,kc,rfl⟩:=rowS_slice hko;have HKO:=hid hko;have HKB:=hid hkb;clear hko hkb))
  go_ret2
  refine⟨_,by rw[HC.out];rfl,by rw[HD2.out];exact row_mono HKO.out (by rw[one_size];have:=HB.out.size;omega),?_⟩
  exact(HB.out.alloc HB.out.size (Obj.cells #[mapV n.m] MkT)).trans (HKB.out.mono (by rw[one_size];have:=HB.out.size;omega))
section
variable {α β:Type}
end
structure MvFacts (T:Tr) (p q:List UInt8) (n u d:TE) (sa sb:List UInt8):Prop where
 hp:splitL p=u.nm++[sa]
 hq:splitL q=d.nm++[sb]
 ep:splitE p=0
 eq:splitE q=0
 ok:MoveOk u.nm d.nm sa sb T.L n d
 hu:u∈T.L
 hu2:u.at_.node=2
 hd2:d.at_.node=2
 clk:T.clock < 1099511627776
 tr:moveTr p q T={T with clock:=T.clock+1,L:=tickT [u.p,d.p] ((T.clock+1:Nat):Int) (moveT (u.nm++[sa]) (d.nm++[sb]) T.L)}
theorem move_facts {B:Nat} {w:World} {r:Nat} {T:Tr} {p q:List UInt8} (hT:TreeAt B w r T) (h0:moveE p q T=0):∃ n u d sa sb,MvFacts T p q n u d sa sb:=by
 have hM:=h0
 rw[moveE] at hM
 by_cases hp:splitE p≠0
 · rw[if_pos hp] at hM;cases hM
 rw[if_neg hp] at hM
 by_cases hq:splitE q≠0
 · rw[if_pos hq] at hM;cases hM
 rw[if_neg hq] at hM
 cases hg:getT (splitL p) T.L with
 |none=>rw [hg] at hM;cases hM
 |some n=>
  rw[hg] at hM
  dsimp only at hM
  by_cases c1:splitL p=[]∨((splitL p).length < (splitL q).length∧splitL p=(splitL q).take (splitL p).length)
  · rw[if_pos c1] at hM;cases hM
  rw[if_neg c1] at hM
  have hne:splitL p≠[]:=fun h=>c1 (.inl h)
  by_cases c2:(getT (splitL q) T.L).isSome=true
  · rw[if_pos c2] at hM;cases hM
  rw[if_neg c2] at hM
  by_cases c3:abvE (splitL q) T.L≠0
  · rw[if_pos c3] at hM;exact absurd hM c3
  rw[if_neg c3] at hM
  have c3:abvE (splitL q) T.L=0:=Classical.not_not.1 c3
  have hqne:splitL q≠[]:=by
   intro hc
   obtain⟨e,he,_⟩:=hT.root
   rw[hc,he] at c2;exact c2 rfl
  obtain⟨hnm,hnn⟩:=getT_nm hg
  obtain⟨u,_,sa,hu,hua,hun,_,hgu,hu2⟩:=hT.up hnm (by rw[hnn];exact hne)
  rw[hnn] at hun hgu hua
  cases hgd:getT (splitL q).dropLast T.L with
  |none=>rw [abvE,hgd] at c3;cases c3
  |some d=>
   obtain⟨hdm,hdn⟩:=getT_nm hgd
   have hd2:d.at_.node=2:=by
    rw[abvE,hgd] at c3
    dsimp only at c3
    split at c3
    · next h=>exact h
    · cases c3
   have hqs:splitL q=d.nm++[(splitL q).getLast hqne]:=by rw[hdn];exact(List.dropLast_concat_getLast hqne).symm
   have hcl:T.clock < 1099511627776:=by
    by_cases c4:16 < (splitL q).length+deepN T.L (splitL p)
    · rw[if_pos c4] at hM;cases hM
    · rw[if_neg c4] at hM
      split at hM
      · cases hM
      · next h=>exact Nat.lt_of_not_le (fun hh=>h (.inr hh))
   refine⟨n,u,d,sa,(splitL q).getLast hqne,hua,hqs,Classical.not_not.1 hp,Classical.not_not.1 hq,⟨hnm,by rw[hnn];exact hua,?_,?_,hdm,rfl,(hT.kind d hdm).1 hd2⟩,hu,hu2,hd2,hcl,?_⟩
   · rw[←hqs]
     cases hc:getT (splitL q) T.L with
     |none=>rfl
     |some x=>rw [hc] at c2;exact absurd rfl c2
   · rw[←hqs,←hua]
     intro hpre
     have hle:=hpre.length_le
     by_cases hlt:(splitL p).length < (splitL q).length
     · exact c1 (.inr ⟨hlt,List.prefix_iff_eq_take.1 hpre⟩)
     · have:=hpre.eq_of_length (by omega)
       rw[←this,hg] at c2
       exact c2 rfl
   · rw[moveTr,if_pos h0,hgu,hgd,←hqs,←hua]
section
variable {B:Nat} {w w1:World} {r k:Nat} {T:Tr} {p q:List UInt8}
end
def bare (e:TE):TE:={e with p:=0,m:=none,xv:= .slice none 0 0}
def Tr.bare (T:Tr):Tr:={T with L:=T.L.map Sr.bare}
section
variable {L:List TE} {T:Tr}
theorem getT_bare (n:PN) (L:List TE):getT n (L.map bare)=(getT n L).map bare:=by
 rw[getT,getT,List.find?_map];rfl
theorem kids_bare (n:PN) (L:List TE):(kidsT (L.map bare) n).length=(kidsT L n).length:=by
 rw[kidsT,kidsT,List.length_filterMap_eq_countP,List.length_filterMap_eq_countP,List.countP_map]
 congr 1
 funext e
 show(kidOf n (bare e)).isSome=(kidOf n e).isSome
 rw[Bool.eq_iff_iff,Option.isSome_iff_exists,Option.isSome_iff_exists]
 constructor
 · rintro ⟨k,hk⟩;exact⟨(k.1,e.p),kidOf_some.2 ⟨(kidOf_some.1 hk).1,rfl⟩⟩
 · rintro ⟨k,hk⟩;exact⟨(k.1,0),kidOf_some.2 ⟨(kidOf_some.1 hk).1,rfl⟩⟩
theorem abvE_bare (l:PN) (L:List TE):abvE l (L.map bare)=abvE l L:=by
 rw[abvE,abvE,getT_bare]
 cases getT l.dropLast L <;> rfl
theorem deepN_bare (n:PN) (L:List TE):deepN (L.map bare) n=deepN L n:=by
 rw[deepN,deepN,subT,subT,List.filter_map,List.foldr_map];rfl
theorem addE_bare (p d:List UInt8) (A:XA) (T:Tr):addE p d A T.bare=addE p d A T:=by
 simp only[addE,Tr.bare,getT_bare,Option.isSome_map,abvE_bare,kids_bare]
theorem writeE_bare (p d:List UInt8) (T:Tr):writeE p d T.bare=writeE p d T:=by
 simp only[writeE,Tr.bare,getT_bare]
 cases getT (splitL p) T.L <;> rfl
theorem attrE_bare (p:List UInt8) (A:XA) (T:Tr):attrE p A T.bare=attrE p A T:=by
 simp only[attrE,Tr.bare,getT_bare]
 cases getT (splitL p) T.L <;> rfl
theorem xattrE_bare (p s t:List UInt8) (T:Tr):xattrE p s t T.bare=xattrE p s t T:=by
 simp only[xattrE,Tr.bare,getT_bare]
 cases getT (splitL p) T.L <;> rfl
theorem clearE_bare (p s:List UInt8) (T:Tr):clearE p s T.bare=clearE p s T:=by
 simp only[clearE,Tr.bare,getT_bare]
 cases getT (splitL p) T.L <;> rfl
theorem moveE_bare (p q:List UInt8) (T:Tr):moveE p q T.bare=moveE p q T:=by
 simp only[moveE,Tr.bare,getT_bare,Option.isSome_map,abvE_bare,kids_bare,deepN_bare]
 cases getT (splitL p) T.L <;> rfl
theorem dropE_bare (p:List UInt8) (T:Tr):dropE p T.bare=dropE p T:=by
 simp only[dropE,Tr.bare,getT_bare]
 cases getT (splitL p) T.L <;> rfl
theorem readE_bare (p:List UInt8) (T:Tr):readE p T.bare.L=readE p T.L:=by
 simp only[readE,Tr.bare,getT_bare]
 cases getT (splitL p) T.L <;> rfl
theorem runE_bare (x:Stp) (T:Tr):runE x T.bare=runE x T:=by
 simp only[runE,addE_bare,writeE_bare,attrE_bare,xattrE_bare,clearE_bare,moveE_bare,dropE_bare,readE_bare]
def tickN (ns:List PN) (c:Int) (L:List TE):List TE:=L.map fun x=>if x.nm∈ns then {x with tick:=c} else x
def updN (e':TE) (L:List TE):List TE:=L.map fun x=>if x.nm=e'.nm then e' else x
theorem tick_bare (ho:(ownL L).Nodup) (hs:SrtT L) (us:List TE) (hu:∀ u∈us,u∈L) (c:Int):(tickT (us.map TE.p) c L).map bare=tickN (us.map TE.nm) c (L.map bare):=by
 rw[tickT_map,tickN,List.map_map,List.map_map]
 refine List.map_congr_left (fun x hx=>?_)
 show bare (if x.p∈us.map TE.p then _ else x)=if x.nm∈us.map TE.nm then _ else _
 have h:x.p∈us.map TE.p ↔ x.nm∈us.map TE.nm:=by
  rw[List.mem_map,List.mem_map]
  constructor
  · rintro ⟨u,hu',h⟩;exact⟨u,hu',by rw[flat_inj ho (hu u hu') hx (x:=u.p) (by simp[ownE]) (by rw[h];simp[ownE])]⟩
  · rintro ⟨u,hu',h⟩;exact⟨u,hu',by rw[srtT_inj hs (hu u hu') hx h]⟩
 by_cases hp:x.p∈us.map TE.p
 · rw[if_pos hp,if_pos (h.1 hp)];rfl
 · rw[if_neg hp,if_neg (fun hn=>hp (h.2 hn))]
theorem ins_bare (e:TE):∀ L:List TE,(insT e L).map bare=insT (bare e) (L.map bare)
 |[]=>rfl
 |y::r=>by
  rw[insT,List.map_cons,insT]
  show _=if ahd e.nm y.nm then _ else _
  by_cases h:ahd e.nm y.nm=true
  · rw[if_pos h,if_pos h];rfl
  · rw[if_neg h,if_neg h,List.map_cons,ins_bare e r]
theorem sort_bare:∀ L:List TE,(sortT L).map bare=sortT (L.map bare)
 |[]=>rfl
 |y::r=>by
  show(insT y (sortT r)).map bare=insT (bare y) (sortT (r.map bare))
  rw[ins_bare,sort_bare r]
theorem move_bare (a b:PN) (L:List TE):(moveT a b L).map bare=moveT a b (L.map bare):=by
 rw[moveT,moveT,sort_bare,List.map_map,List.map_map];rfl
theorem drop_bare (l:PN) (L:List TE):(dropT l L).map bare=dropT l (L.map bare):=by
 rw[dropT,dropT,List.filter_map];rfl
theorem upd_bare (ho:(ownL L).Nodup) (hs:SrtT L) {n n':TE} (hn:n∈L) (hp:n'.p=n.p) (hm:n'.nm=n.nm):(updT n' L).map bare=updN (bare n') (L.map bare):=by
 rw[updT,updN,List.map_map,List.map_map]
 refine List.map_congr_left (fun x hx=>?_)
 show bare (if x.p=n'.p then n' else x)=if x.nm=n'.nm then bare n' else bare x
 have h:x.p=n'.p ↔ x.nm=n'.nm:=by
  rw[hp,hm]
  constructor
  · intro h;rw[flat_inj ho hx hn (x:=x.p) (by simp[ownE]) (by rw[h];simp[ownE])]
  · intro h;rw[srtT_inj hs hx hn h]
 by_cases hc:x.p=n'.p
 · rw[if_pos hc,if_pos (h.1 hc)]
 · rw[if_neg hc,if_neg (fun hn=>hc (h.2 hn))]
def addN (p d:List UInt8) (A:XA) (F:Tr):Tr:=
 {F with clock:=F.clock+1,most:=F.most+1,L:=tickN [splitL p,(splitL p).dropLast] ((F.clock+1:Nat):Int) (insT ⟨splitL p,F.most+1,0,A,d,0,none,.slice none 0 0⟩ F.L)}
def setN (p:List UInt8) (g:TE→TE) (F:Tr):Tr:=
 match getT (splitL p) F.L with
 |none=>F
 |some n=>{F with clock:=F.clock+1,L:=tickN [splitL p] ((F.clock+1:Nat):Int) (updN (g n) F.L)}
def moveN (p q:List UInt8) (F:Tr):Tr:={F with clock:=F.clock+1,L:=tickN [(splitL p).dropLast,(splitL q).dropLast] ((F.clock+1:Nat):Int) (moveT (splitL p) (splitL q) F.L)}
def dropN (p:List UInt8) (F:Tr):Tr:={F with clock:=F.clock+1,L:=tickN [(splitL p).dropLast] ((F.clock+1:Nat):Int) (dropT (splitL p) F.L)}
def runN (x:Stp) (F:Tr):Tr:=
 if runE x F≠0 then F
 else if x.kind=0 then addN x.path [] (asFold x.A) F
 else if x.kind=1 then addN x.path x.more (asFile x.A) F
 else if x.kind=2 then addN x.path [] (asLink x.more x.A) F
 else if x.kind=3 then setN x.path (fun n=>{n with data:=x.more}) F
 else if x.kind=4 then setN x.path (fun n=>{n with at_:=asOf x.A n}) F
 else if x.kind=5 then setN x.path (fun n=>{n with at_:=xattrA x.A.target x.more n.at_}) F
 else if x.kind=6 then setN x.path (fun n=>{n with at_:=clearA x.A.target n.at_}) F
 else if x.kind=7 then moveN x.path x.more F
 else if x.kind=8 then dropN x.path F
 else if x.kind=9 then {F with reads:=F.reads+1}
 else F
end
section
variable {B B':Nat} {w w':World} {r:Nat} {T T':Tr}
theorem tree_tick {qs:List Nat} {c:Int} {L:List TE} (h:TreeAt B w r T) (hL:T.L=tickT qs c L):(ownL L).Nodup∧SrtT L:=by
 refine⟨?_,srt_unticks (qs:=qs) (c:=c) (by rw[←hL];exact h.srt)⟩
 have:=h.own_nod
 rw[hL,own_tickT] at this;exact this
theorem bare_add {p d:List UInt8} {A:XA} (h:AddIs p d A T T') (hT':TreeAt B w' r T'):T'.bare=addN p d A T.bare:=by
 obtain⟨n,u,hu,hun,hn,hi,ha,hd,ht,rfl⟩:=h
 obtain⟨ho,hs⟩:=tree_tick hT' rfl
 have hk:=tick_bare ho hs [n,u] (by
  intro x hx
  rcases List.mem_cons.1 hx with rfl|hx
  · exact mem_insT.2 (.inl rfl)
  · obtain rfl:=List.mem_singleton.1 hx
    exact mem_insT.2 (.inr hu)) ((T.clock+1:Nat):Int)
 have hb:bare n=⟨splitL p,T.most+1,0,A,d,0,none,.slice none 0 0⟩:=by
  rw[bare,hn,hi,ha,hd,ht]
 rw[ins_bare,hb] at hk
 simp only[List.map_cons,List.map_nil,hn,hun] at hk
 show Tr.mk (((tickT [n.p,u.p] _ _).map Sr.bare)) _ _ _=_
 rw[hk];rfl
theorem bare_set {p:List UInt8} {g g':TE→TE} (hg:∀ n,bare (g' n)=g (bare n)) (hp:∀ n,(g' n).p=n.p∧(g' n).nm=n.nm) {n:TE} (hn:getT (splitL p) T.L=some n) (hT':TreeAt B w' r T') (hT:TreeAt B' w r T)
 (he:T'={T with clock:=T.clock+1,L:=tickT [n.p] ((T.clock+1:Nat):Int) (updT (g' n) T.L)}):T'.bare=setN p g T.bare:=by
 subst he
 obtain⟨ho,hs⟩:=tree_tick hT' rfl
 obtain⟨hm,hnm⟩:=getT_nm hn
 have h1:g' n∈updT (g' n) T.L:=List.mem_map.2 ⟨n,hm,by rw[if_pos (hp n).1.symm]⟩
 have hk:=tick_bare ho hs [g' n] (by
  intro x hx
  obtain rfl:=List.mem_singleton.1 hx
  exact h1) ((T.clock+1:Nat):Int)
 rw[upd_bare hT.own_nod hT.srt hm (hp n).1 (hp n).2,hg] at hk
 simp only[List.map_cons,List.map_nil,(hp n).1,(hp n).2,hnm] at hk
 have hgb:getT (splitL p) T.bare.L=some (bare n):=by
  show getT (splitL p) (T.L.map bare)=_
  rw[getT_bare,hn];rfl
 rw[setN,hgb]
 show Tr.mk (((tickT [n.p] _ _).map Sr.bare)) _ _ _=_
 rw[hk];rfl
theorem bare_move {p q:List UInt8} (h0:moveE p q T=0) (hT:TreeAt B w r T) (hT':TreeAt B' w' r (moveTr p q T)):(moveTr p q T).bare=moveN p q T.bare:=by
 obtain⟨n,u,d,sa,sb,F⟩:=move_facts hT h0
 rw[F.tr] at hT' ⊢
 obtain⟨ho,hs⟩:=tree_tick hT' rfl
 have hin:∀ y∈T.L,¬ (u.nm++[sa]) <+:y.nm→y∈moveT (u.nm++[sa]) (d.nm++[sb]) T.L:=fun y hy hpre=>moveT_mem.2 ⟨y,hy,by rw[renE,renP_out hpre]⟩
 have hu3:¬ (u.nm++[sa]) <+:u.nm:=fun h=>by have:=h.length_le;rw[List.length_append,List.length_singleton] at this;omega
 have hk:=tick_bare ho hs [u,d] (by
  intro x hx
  rcases List.mem_cons.1 hx with rfl|hx
  · exact hin _ F.hu hu3
  · obtain rfl:=List.mem_singleton.1 hx
    exact hin _ F.ok.dmem F.ok.off0) ((T.clock+1:Nat):Int)
 rw[move_bare] at hk
 simp only[List.map_cons,List.map_nil] at hk
 rw[moveN,F.hp,F.hq,List.dropLast_concat,List.dropLast_concat]
 show Tr.mk (((tickT [u.p,d.p] _ _).map Sr.bare)) _ _ _=_
 rw[hk];rfl
theorem bare_drop {p:List UInt8} (h0:dropE p T=0) (hT:TreeAt B w r T) (hT':TreeAt B' w' r (dropTr p T)):(dropTr p T).bare=dropN p T.bare:=by
 have h:=h0
 rw[dropE] at h
 split at h
 · cases h
 · cases hg:getT (splitL p) T.L with
   |none=>rw [hg] at h;cases h
   |some n=>
    rw[hg] at h
    dsimp only at h
    split at h
    · cases h
    · next hpn=>
      obtain⟨hn,hnm⟩:=getT_nm hg
      obtain⟨u,_,sl,hu,hnu,hun,_,hgu,_⟩:=hT.up hn (by rw[hnm];exact hpn)
      rw[hnm] at hun hgu hnu
      rw[dropTr,if_pos h0,hgu] at hT' ⊢
      dsimp only at hT' ⊢
      obtain⟨ho,hs⟩:=tree_tick hT' rfl
      have hk:=tick_bare ho hs [u] (by
       intro x hx
       obtain rfl:=List.mem_singleton.1 hx
       refine dropT_mem.2 ⟨hu,fun hpre=>?_⟩
       have:=hpre.length_le
       rw[hnu,List.length_append,List.length_singleton] at this
       omega) ((T.clock+1:Nat):Int)
      rw[drop_bare] at hk
      simp only[List.map_cons,List.map_nil,hun] at hk
      rw[dropN]
      show Tr.mk (((tickT [u.p] _ _).map Sr.bare)) _ _ _=_
      rw[hk];rfl
theorem bare_run {x:Stp} (h:RunIs x T T') (hT:TreeAt B w r T) (hT':TreeAt B' w' r T'):T'.bare=runN x T.bare:=by
 unfold RunIs at h
 rw[runN,runE_bare]
 by_cases h0:runE x T≠0
 · rw[if_pos h0] at h ⊢;rw[h]
 rw[if_neg h0] at h ⊢
 have h00:runE x T=0:=Classical.not_not.1 h0
 rw[runE] at h00
 by_cases k0:x.kind=0
 · rw[if_pos k0] at h ⊢;exact bare_add h hT'
 rw[if_neg k0] at h h00 ⊢
 by_cases k1:x.kind=1
 · rw[if_pos k1] at h ⊢;exact bare_add h hT'
 rw[if_neg k1] at h h00 ⊢
 by_cases k2:x.kind=2
 · rw[if_pos k2] at h ⊢;exact bare_add h hT'
 rw[if_neg k2] at h h00 ⊢
 by_cases k3:x.kind=3
 · rw[if_pos k3] at h h00 ⊢
   have hw:=h00
   rw[writeE] at hw
   cases hg:getT (splitL x.path) T.L with
   |none=>
    rw[hg] at hw
    split at hw
    · cases hw
    · split at hw <;> cases hw
   |some n=>
    rw[writeT,if_pos h00,hg] at h
    exact bare_set (g':=fun n=>{n with data:=x.more}) (fun n=>rfl) (fun n=>⟨rfl,rfl⟩) hg hT' hT h
 rw[if_neg k3] at h h00 ⊢
 by_cases k4:x.kind=4
 · rw[if_pos k4] at h ⊢
   obtain⟨n,xv,hg,h⟩:=h
   exact bare_set (g':=fun n=>{n with at_:=asOf x.A n,xv:=xv}) (fun n=>rfl) (fun n=>⟨rfl,rfl⟩) hg hT' hT h
 rw[if_neg k4] at h h00 ⊢
 by_cases k5:x.kind=5
 · rw[if_pos k5] at h ⊢
   obtain⟨n,xv,hg,h⟩:=h
   exact bare_set (g':=fun n=>{n with at_:=xattrA x.A.target x.more n.at_,xv:=xv}) (fun n=>rfl) (fun n=>⟨rfl,rfl⟩) hg hT' hT h
 rw[if_neg k5] at h h00 ⊢
 by_cases k6:x.kind=6
 · rw[if_pos k6] at h ⊢
   obtain⟨n,xv,hg,h⟩:=h
   exact bare_set (g':=fun n=>{n with at_:=clearA x.A.target n.at_,xv:=xv}) (fun n=>rfl) (fun n=>⟨rfl,rfl⟩) hg hT' hT h
 rw[if_neg k6] at h h00 ⊢
 by_cases k7:x.kind=7
 · rw[if_pos k7] at h h00 ⊢
   subst h;exact bare_move h00 hT hT'
 rw[if_neg k7] at h h00 ⊢
 by_cases k8:x.kind=8
 · rw[if_pos k8] at h h00 ⊢
   subst h;exact bare_drop h00 hT hT'
 rw[if_neg k8] at h h00 ⊢
 by_cases k9:x.kind=9
 · rw[if_pos k9] at h ⊢;rw[h];rfl
 rw[if_neg k9] at h ⊢;rw[h]
end
abbrev Rise (M:MV Nat):Prop:=M.Pairwise fun a b=>lt a.1 b.1=true
structure NodeW (w:World) (L:List TE) (e:TE):Prop where
 cells:w.heap[e.p]? =some (.cells e.cells.toArray NdT)
 kids:∀ b,e.m=some b→∃ M:MV Nat,Rise M∧w.ownsMap Tryz.prog 9 Rv b 1000000 (toD ptr M)∧∀ k,k∈M ↔ ∃ x∈L,x.nm=e.nm++[k.1]∧x.p=k.2
 xs:XsAt w e.xv e.at_.xs
theorem NodeW.kept {w w':World} {L:List TE} {e:TE} (h:NodeW w L e) (hs:w.heap.size≤w'.heap.size) (hb:∀ b∈ownE e++xob e.at_.xs e.xv,w'.heap[b]? =w.heap[b]?):NodeW w' L e:=by
 refine⟨(hb _ (by simp[ownE])).trans h.cells,fun b hm=>?_,h.xs.kept hs (fun b hx=>hb b (by simp[hx]))⟩
 obtain⟨M,h1,h2,h3⟩:=h.kids b hm
 exact⟨M,h1,ownsMap_block h2 (hb b (by simp[ownE,hm])),h3⟩
theorem NodeW.lt {w:World} {L:List TE} {e:TE} (h:NodeW w L e):∀ b∈ownE e++xob e.at_.xs e.xv,b < w.heap.size:=by
 intro b hb
 rcases List.mem_append.1 hb with hb|hb
 · rw[ownE,List.mem_cons] at hb
   rcases hb with rfl|hb
   · exact lt_of_heap h.cells
   · obtain⟨M,_,h2,_⟩:=h.kids b (by simpa using hb)
     exact h2.lt
 · exact h.xs.lt b hb
theorem NodeW.wide {w:World} {L L':List TE} {c:TE} (h:NodeW w L c) (hL:∀ x s,x.nm=c.nm++[s]→(x∈L' ↔ x∈L)):NodeW w L' c:=by
 refine⟨h.cells,fun b hm=>?_,h.xs⟩
 obtain⟨M,h1,h2,h3⟩:=h.kids b hm
 refine⟨M,h1,h2,fun k=>(h3 k).trans ?_⟩
 constructor
 · rintro ⟨x,hx,h4,h5⟩;exact⟨x,(hL x _ h4).2 hx,h4,h5⟩
 · rintro ⟨x,hx,h4,h5⟩;exact⟨x,(hL x _ h4).1 hx,h4,h5⟩
structure Lies (C0:Nat) (w:World) (C:List TE):Prop where
 node:∀ c∈C,NodeW w C c
 nod:(ownL C).Nodup
 xoff:∀ b∈xobL C,b ∉ ownL C
 fresh:∀ b∈ownL C++xobL C,C0≤b
 kind:∀ c∈C,(c.at_.node=2 ↔ c.m≠none)
theorem blk_mem {C:List TE} {c:TE} (hc:c∈C) {b:Nat} (hb:b∈ownE c++xob c.at_.xs c.xv):b∈ownL C++xobL C:=by
 rcases List.mem_append.1 hb with hb|hb
 · exact List.mem_append_left _ (List.mem_flatMap.2 ⟨c,hc,hb⟩)
 · exact List.mem_append_right _ (List.mem_flatMap.2 ⟨c,hc,hb⟩)
theorem Lies.lt {C0:Nat} {w:World} {C:List TE} (h:Lies C0 w C):∀ b∈ownL C++xobL C,b < w.heap.size:=by
 intro b hb
 rcases List.mem_append.1 hb with hb|hb
 · obtain⟨e,he,hx⟩:=List.mem_flatMap.1 hb
   exact(h.node e he).lt b (by simp[hx])
 · obtain⟨e,he,hx⟩:=List.mem_flatMap.1 hb
   exact(h.node e he).lt b (by simp[hx])
theorem Lies.kept {C0:Nat} {w w':World} {C:List TE} (h:Lies C0 w C) (hs:w.heap.size≤w'.heap.size) (hb:∀ b∈ownL C++xobL C,w'.heap[b]? =w.heap[b]?):Lies C0 w' C:=
 ⟨fun c hc=>(h.node c hc).kept hs (fun b hx=>hb b (blk_mem hc hx)),h.nod,h.xoff,h.fresh,h.kind⟩
theorem Lies.below {C0:Nat} {w w':World} {C:List TE} (h:Lies C0 w C) (hb:Below w.heap.size w w'):Lies C0 w' C:=h.kept hb.size (fun b hx=>hb.block b (h.lt b hx))
theorem Lies.nil (C0:Nat) (w:World):Lies C0 w []:=⟨by simp,by simp[ownL],by simp[xobL],by simp[ownL,xobL],by simp⟩
theorem Lies.append {C0:Nat} {w w1:World} {C D:List TE} (h:Lies C0 w D) (hC:Lies w.heap.size w1 C) (hb:Below w.heap.size w w1) (h0:C0≤w.heap.size)
 (h1:∀ c∈C,∀ x∈D,∀ s,x.nm≠c.nm++[s]) (h2:∀ c∈D,∀ x∈C,∀ s,x.nm≠c.nm++[s]):Lies C0 w1 (C++D):=by
 have hd:=h.below hb
 have ho:ownL (C++D)=ownL C++ownL D:=List.flatMap_append
 have hx:xobL (C++D)=xobL C++xobL D:=List.flatMap_append
 have lo:∀ b∈ownL D++xobL D,b < w.heap.size:=h.lt
 refine⟨fun c hc=>?_,?_,?_,?_,fun c hc=>?_⟩
 · rcases List.mem_append.1 hc with hc|hc
   · refine(hC.node c hc).wide (fun x s hn=>?_)
     rw[List.mem_append]
     exact⟨fun hx=>hx.elim id (fun hx=>absurd hn (h1 c hc x hx s)),.inl⟩
   · refine(hd.node c hc).wide (fun x s hn=>?_)
     rw[List.mem_append]
     exact⟨fun hx=>hx.elim (fun hx=>absurd hn (h2 c hc x hx s)) id,.inr⟩
 · rw[ho,List.nodup_append]
   refine⟨hC.nod,h.nod,fun a ha b hb' hab=>?_⟩
   have e1:=hC.fresh a (List.mem_append_left _ ha)
   have e2:=lo b (List.mem_append_left _ hb')
   omega
 · intro b hb'
   rw[hx,List.mem_append] at hb'
   rw[ho,List.mem_append]
   rintro (hc|hc)
   · rcases hb' with hb'|hb'
     · exact hC.xoff b hb' hc
     · have e1:=hC.fresh b (List.mem_append_left _ hc)
       have e2:=lo b (List.mem_append_right _ hb')
       omega
   · rcases hb' with hb'|hb'
     · have e1:=hC.fresh b (List.mem_append_right _ hb')
       have e2:=lo b (List.mem_append_left _ hc)
       omega
     · exact h.xoff b hb' hc
 · intro b hb'
   rw[ho,hx] at hb'
   simp only[List.mem_append] at hb'
   rcases hb' with(hb'|hb')|(hb'|hb')
   · exact Nat.le_trans h0 (hC.fresh b (List.mem_append_left _ hb'))
   · exact h.fresh b (List.mem_append_left _ hb')
   · exact Nat.le_trans h0 (hC.fresh b (List.mem_append_right _ hb'))
   · exact h.fresh b (List.mem_append_right _ hb')
 · rcases List.mem_append.1 hc with hc|hc
   · exact hC.kind c hc
   · exact h.kind c hc
theorem nodup_inj {α β:Type} {f:α→β}:∀ {l:List α},(l.map f).Nodup→∀ {x y:α},x∈l→y∈l→f x=f y→x=y
 |[],_,_,_,h,_,_=>by cases h
 |a::r,hn,x,y,hx,hy,he=>by
  rw[List.map_cons,List.nodup_cons] at hn
  rcases List.mem_cons.1 hx with hxa|hx <;> rcases List.mem_cons.1 hy with hya|hy
  · rw[hxa,hya]
  · exact absurd (List.mem_map.2 ⟨y,hy,by rw[←he,hxa]⟩) hn.1
  · exact absurd (List.mem_map.2 ⟨x,hx,by rw[he,hya]⟩) hn.1
  · exact nodup_inj hn.2 hx hy he
theorem nm_bare (L:List TE):(L.map bare).map TE.nm=L.map TE.nm:=by rw[List.map_map];rfl
theorem srt_nodup {L:List TE} (h:SrtT L):(L.map TE.nm).Nodup:=by
 rw[List.nodup_iff_pairwise_ne,List.pairwise_map]
 exact List.Pairwise.imp (fun h=>ahd_ne h) h
structure TwF (C0:Nat) (w:World) (T:Tr) (n:PN) (p:Nat) (C:List TE):Prop where
 perm:(C.map bare).Perm ((subT T.L n).map bare)
 root:∃ c∈C,c.nm=n∧c.p=p
 lies:Lies C0 w C
theorem TwF.names {C0:Nat} {w:World} {T:Tr} {n:PN} {p:Nat} {C:List TE} (h:TwF C0 w T n p C) {x:TE} (hx:x∈C):∃ t,x.nm=n++t:=by
 have h1:=h.perm.mem_iff.1 (List.mem_map.2 ⟨x,hx,rfl⟩)
 obtain⟨y,hy,hyx⟩:=List.mem_map.1 h1
 obtain⟨_,t,ht⟩:=subT_mem.1 hy
 have:(bare y).nm=(bare x).nm:=by rw[hyx]
 exact⟨t,(show x.nm=y.nm from this.symm).trans ht⟩
theorem TwF.nodup {C0:Nat} {w:World} {T:Tr} {n:PN} {p:Nat} {C:List TE} (h:TwF C0 w T n p C) (hs:SrtT T.L):(C.map TE.nm).Nodup:=by
 have h1:=h.perm.map TE.nm
 rw[nm_bare,nm_bare] at h1
 exact h1.nodup_iff.2 (srt_nodup (subT_srt hs n))
structure TwL (C0:Nat) (w:World) (T:Tr) (n:PN) (ks:List (List UInt8)) (M:MV Nat) (D:List TE):Prop where
 perm:(D.map bare).Perm (ks.flatMap fun k=>(subT T.L (n++[k])).map bare)
 nodup:ks.Nodup
 rise:Rise M
 mem:∀ k,k∈M ↔ ∃ x∈D,x.nm=n++[k.1]∧x.p=k.2
 lies:Lies C0 w D
theorem TwL.nil (C0:Nat) (w:World) (T:Tr) (n:PN):TwL C0 w T n [] [] []:=⟨by simp,by simp,by simp,by simp,Lies.nil C0 w⟩
theorem TwL.below {C0:Nat} {w w':World} {T:Tr} {n:PN} {ks:List (List UInt8)} {M:MV Nat} {D:List TE} (h:TwL C0 w T n ks M D) (hb:Below w.heap.size w w'):TwL C0 w' T n ks M D:=⟨h.perm,h.nodup,h.rise,h.mem,h.lies.below hb⟩
theorem TwL.kept {C0:Nat} {w w':World} {T:Tr} {n:PN} {ks:List (List UInt8)} {M:MV Nat} {D:List TE} (h:TwL C0 w T n ks M D) (hs:w.heap.size≤w'.heap.size) (hb:∀ b,C0≤b→b < w.heap.size→w'.heap[b]? =w.heap[b]?):TwL C0 w' T n ks M D:=
 ⟨h.perm,h.nodup,h.rise,h.mem,h.lies.kept hs (fun b hx=>hb b (h.lies.fresh b hx) (h.lies.lt b hx))⟩
theorem TwL.names {C0:Nat} {w:World} {T:Tr} {n:PN} {ks:List (List UInt8)} {M:MV Nat} {D:List TE} (h:TwL C0 w T n ks M D) {x:TE} (hx:x∈D):∃ k∈ks,∃ t,x.nm=n++(k::t):=by
 have h1:=h.perm.mem_iff.1 (List.mem_map.2 ⟨x,hx,rfl⟩)
 obtain⟨k,hk,h2⟩:=List.mem_flatMap.1 h1
 obtain⟨y,hy,hyx⟩:=List.mem_map.1 h2
 obtain⟨_,t,ht⟩:=subT_mem.1 hy
 have:(bare y).nm=(bare x).nm:=by rw[hyx]
 exact⟨k,hk,t,by rw[(show x.nm=y.nm from this.symm),ht,List.append_assoc];rfl⟩
theorem TwL.step {C0:Nat} {w w1:World} {T:Tr} {n:PN} {ks:List (List UInt8)} {M:MV Nat} {D C:List TE} {k:List UInt8} {p:Nat} (h:TwL C0 w T n ks M D) (hC:TwF w.heap.size w1 T (n++[k]) p C) (hb:Below w.heap.size w w1)
 (h0:C0≤w.heap.size) (hk:k ∉ ks) (hs:SrtT T.L):TwL C0 w1 T n (k::ks) (putM M k p) (C++D):=by
 have cn:∀ x∈C,∃ t,x.nm=n++(k::t):=fun x hx=>by
  obtain⟨t,ht⟩:=hC.names hx
  exact⟨t,by rw[ht,List.append_assoc];rfl⟩
 obtain⟨c0,hc0,hcn,hcp⟩:=hC.root
 refine⟨?_,List.nodup_cons.2 ⟨hk,h.nodup⟩,put_rise h.rise k p,fun k'=>?_,?_⟩
 · rw[List.map_append,List.flatMap_cons]
   exact hC.perm.append h.perm
 · rw[mem_put]
   constructor
   · rintro (rfl|⟨hm,_⟩)
     · exact⟨c0,List.mem_append_left _ hc0,hcn,hcp⟩
     · obtain⟨x,hx,h1,h2⟩:=(h.mem k').1 hm
       exact⟨x,List.mem_append_right _ hx,h1,h2⟩
   · rintro ⟨x,hx,h1,h2⟩
     rcases List.mem_append.1 hx with hx|hx
     · obtain⟨t,ht⟩:=cn x hx
       have h3:=List.append_cancel_left (h1.symm.trans ht)
       injection h3 with h3 h4
       have hxc:x=c0:=nodup_inj (hC.nodup hs) hx hc0 (by rw[h1,hcn,h3])
       left
       rw[hxc,hcp] at h2
       exact Prod.ext h3 h2.symm
     · obtain⟨k2,hk2,t,ht⟩:=h.names hx
       have h3:=List.append_cancel_left (h1.symm.trans ht)
       injection h3 with h3 h4
       exact .inr ⟨(h.mem k').2 ⟨x,hx,h1,h2⟩,fun he=>hk (by rw[←he,h3];exact hk2)⟩
 · refine h.lies.append hC.lies hb h0 (fun c hc x hx s hn=>?_) (fun c hc x hx s hn=>?_)
   · obtain⟨t,ht⟩:=cn c hc
     obtain⟨k2,hk2,t2,ht2⟩:=h.names hx
     rw[ht2,ht,List.append_assoc] at hn
     have h3:=List.append_cancel_left hn
     injection h3 with h3 _
     exact hk (by rw[←h3];exact hk2)
   · obtain⟨t,ht⟩:=cn x hx
     obtain⟨k2,hk2,t2,ht2⟩:=h.names hc
     rw[ht2,ht,List.append_assoc] at hn
     have h3:=List.append_cancel_left hn
     injection h3 with h3 _
     exact hk (by rw[h3];exact hk2)
theorem nodup_le {α:Type} [DecidableEq α]:∀ {l m:List α},l.Nodup→(∀ x∈l,x∈m)→l.length≤m.length
 |[],_,_,_=>Nat.zero_le _
 |a::r,m,hn,h=>by
  have ha:=h a (List.mem_cons_self ..)
  have h1:r.length≤(m.erase a).length:=nodup_le (List.nodup_cons.1 hn).2 (fun x hx=>(List.mem_erase_of_ne (fun e=>(List.nodup_cons.1 hn).1 (by rw[←e];exact hx))).2 (h x (List.mem_cons_of_mem _ hx)))
  rw[List.length_erase_of_mem ha] at h1
  have:=List.length_pos_of_mem ha
  rw[List.length_cons];omega
theorem TwL.len {C0:Nat} {w:World} {T:Tr} {n:PN} {ks:List (List UInt8)} {M:MV Nat} {D:List TE} (h:TwL C0 w T n ks M D) {N:MV Nat} (hk:∀ k∈ks,k∈N.map (·.1)):M.length≤N.length:=by
 have h1:(M.map (·.1)).Nodup:=by
  rw[List.nodup_iff_pairwise_ne,List.pairwise_map]
  exact h.rise.imp (fun h=>lt_ne h)
 have h2:=nodup_le h1 (m:=N.map (·.1)) (fun x hx=>by
  obtain⟨k,hkm,rfl⟩:=List.mem_map.1 hx
  obtain⟨y,hy,h3,_⟩:=(h.mem k).1 hkm
  obtain⟨k2,hk2,t,ht⟩:=h.names hy
  have h4:=List.append_cancel_left (h3.symm.trans ht)
  injection h4 with h4 _
  rw[h4];exact hk k2 hk2)
 rw[List.length_map,List.length_map] at h2
 exact h2
theorem getM_has {M:MV Nat} {k:List UInt8}:(getM M k).isSome=true ↔ k∈M.map (·.1):=by
 rw[getM,Option.isSome_map,List.find?_isSome,List.mem_map]
 constructor
 · rintro ⟨x,hx,h⟩;exact⟨x,hx,by simpa using h⟩
 · rintro ⟨x,hx,h⟩;exact⟨x,hx,by simpa using h⟩
theorem bare_nm {a b:TE} (h:bare a=bare b):a.nm=b.nm:=show (bare a).nm=(bare b).nm by rw[h]
theorem bare_at {a b:TE} (h:bare a=bare b):a.at_=b.at_:=show (bare a).at_=(bare b).at_ by rw[h]
theorem TwL.done {C0 w0:Nat} {w:World} {T:Tr} {e:TE} {ks:List (List UInt8)} {M:MV Nat} {D:List TE} (h:TwL C0 w T e.nm ks M D) (he:e∈T.L) (hs:SrtT T.L) (hp:ParT T.L) (hks:∀ k,(getM (kidsT T.L e.nm) k).isSome=true ↔ k∈ks)
 {c0:TE} (hb:bare c0=bare e) (hcell:w.heap[c0.p]? =some (.cells c0.cells.toArray NdT)) (hm:∀ mb,c0.m=some mb→w.ownsMap Tryz.prog 9 Rv mb 1000000 (toD ptr M)) (hx:XsAt w c0.xv c0.at_.xs)
 (hnd:(ownE c0).Nodup) (hxo:∀ b∈xob c0.at_.xs c0.xv,b ∉ ownE c0) (hlt:∀ b∈ownE c0++xob c0.at_.xs c0.xv,w0≤b∧b < C0) (h0:w0≤C0) (hk:c0.at_.node=2 ↔ c0.m≠none):TwF w0 w T e.nm c0.p (c0::D):=by
 have hn:=bare_nm hb
 have dn:∀ x∈D,∀ s,c0.nm≠x.nm++[s]:=fun x hx s hc=>by
  obtain⟨k,_,t,ht⟩:=h.names hx
  have:=congrArg List.length hc
  rw[hn,ht,List.length_append,List.length_append,List.length_cons] at this
  omega
 have c0n:∀ s,c0.nm≠c0.nm++[s]:=fun s hc=>by
  have:=congrArg List.length hc
  rw[List.length_append,List.length_singleton] at this
  omega
 have ho:ownL (c0::D)=ownE c0++ownL D:=List.flatMap_cons
 have hxb:xobL (c0::D)=xob c0.at_.xs c0.xv++xobL D:=List.flatMap_cons
 have lt1:∀ b∈ownE c0,b < C0:=fun b hb=>(hlt b (List.mem_append_left _ hb)).2
 have lt2:∀ b∈xob c0.at_.xs c0.xv,b < C0:=fun b hb=>(hlt b (List.mem_append_right _ hb)).2
 have ge1:∀ b∈ownL D,C0≤b:=fun b hb=>h.lies.fresh b (List.mem_append_left _ hb)
 have ge2:∀ b∈xobL D,C0≤b:=fun b hb=>h.lies.fresh b (List.mem_append_right _ hb)
 refine⟨?_,⟨c0,List.mem_cons_self ..,hn,rfl⟩,⟨fun c hc=>?_,?_,?_,?_,fun c hc=>?_⟩⟩
 · rw[subT_unfold hs hp he,List.map_cons,List.map_cons,hb,List.map_flatMap]
   refine(h.perm.trans ?_).cons _
   have e1:((kidsT T.L e.nm).flatMap fun a=>(subT T.L (e.nm++[a.1])).map bare)=((kidsT T.L e.nm).map (·.1)).flatMap fun k=>(subT T.L (e.nm++[k])).map bare:=by rw[List.flatMap_map]
   rw[e1]
   refine List.Perm.flatMap_right _ ?_
   refine(List.perm_ext_iff_of_nodup h.nodup ?_).2 (fun k=>?_)
   · rw[List.nodup_iff_pairwise_ne,List.pairwise_map]
     exact(kidsT_srt hs e.nm).imp (fun h=>lt_ne h)
   · rw[←hks k,getM_has]
 · rcases List.mem_cons.1 hc with rfl|hc
   · refine⟨hcell,fun b hbm=>⟨M,h.rise,hm b hbm,fun k=>(h.mem k).trans ?_⟩,hx⟩
     rw[←hn]
     constructor
     · rintro ⟨x,hx,h1,h2⟩;exact⟨x,List.mem_cons_of_mem _ hx,h1,h2⟩
     · rintro ⟨x,hx,h1,h2⟩
       rcases List.mem_cons.1 hx with rfl|hx
       · exact absurd h1 (c0n _)
       · exact⟨x,hx,h1,h2⟩
   · refine(h.lies.node c hc).wide (fun x s hxn=>?_)
     rw[List.mem_cons]
     exact⟨fun hx=>hx.elim (fun hx=>absurd (by rw[←hx];exact hxn) (dn c hc s)) id,.inr⟩
 · rw[ho,List.nodup_append]
   refine⟨hnd,h.lies.nod,fun a ha b hb' hab=>?_⟩
   have:=lt1 a ha
   have:=ge1 b hb'
   omega
 · intro b hb'
   rw[hxb,List.mem_append] at hb'
   rw[ho,List.mem_append]
   rintro (hc|hc)
   · rcases hb' with hb'|hb'
     · exact hxo b hb' hc
     · have:=lt1 b hc
       have:=ge2 b hb'
       omega
   · rcases hb' with hb'|hb'
     · have:=lt2 b hb'
       have:=ge1 b hc
       omega
     · exact h.lies.xoff b hb' hc
 · intro b hb'
   rw[ho,hxb] at hb'
   simp only[List.mem_append] at hb'
   rcases hb' with(hb'|hb')|(hb'|hb')
   · exact(hlt b (List.mem_append_left _ hb')).1
   · exact Nat.le_trans h0 (ge1 b hb')
   · exact(hlt b (List.mem_append_right _ hb')).1
   · exact Nat.le_trans h0 (ge2 b hb')
 · rcases List.mem_cons.1 hc with rfl|hc
   · exact hk
   · exact h.lies.kind c hc
theorem no_kids {B:Nat} {w:World} {r:Nat} {T:Tr} (h:TreeAt B w r T) {e:TE} (he:e∈T.L) (hm:e.m=none) (k:List UInt8):(getM (kidsT T.L e.nm) k).isSome=true ↔ k∈([]:List (List UInt8)):=by
 have h0:kidsT T.L e.nm=[]:=by
  rw[List.eq_nil_iff_forall_not_mem]
  intro k hk
  obtain⟨x,hx,h1,_⟩:=kidsT_mem.1 hk
  obtain⟨u,hu,h2,h3⟩:=h.par x hx _ _ h1
  rw[srtT_inj h.srt hu he h2] at h3
  exact h3 hm
 rw[h0];simp[getM]
theorem TwF.tree {B B2 C0:Nat} {w w1:World} {r r2 p:Nat} {T:Tr} {C:List TE} (hT:TreeAt B w r T) (h:TwF C0 w1 T [] p C) (hr:w1.heap[r2]? =some (.cells #[ptr p,.int .i64 (T.clock:Int),.int .u64 (T.most:Int),.int .i64 (T.reads:Int)] TrT))
 (hr2:r2 ∉ ownL C++xobL C) (h0:B2≤C0) (h2:B2≤r2):TreeAt B2 w1 r2 {T with L:=sortT C}∧({T with L:=sortT C}:Tr).bare=T.bare∧∀ b∈ownL (sortT C)++xobL (sortT C),b∈ownL C++xobL C:=by
 have hnm:=h.nodup hT.srt
 have hss:SrtT (sortT C):=sortT_srt (by
  rw[List.nodup_iff_pairwise_ne,List.pairwise_map] at hnm;exact hnm)
 have hpm:=sortT_perm C
 have hpo:(ownL (sortT C)).Perm (ownL C):=hpm.flatMap_right ownE
 have hpx:(xobL (sortT C)).Perm (xobL C):=hpm.flatMap_right _
 have hmem:∀ x,x∈sortT C ↔ x∈C:=fun x=>hpm.mem_iff
 have hperm:=h.perm
 rw[subT_root] at hperm
 have toT:∀ c∈C,∃ y∈T.L,bare y=bare c:=fun c hc=>List.mem_map.1 (hperm.mem_iff.1 (List.mem_map.2 ⟨c,hc,rfl⟩))
 have toC:∀ y∈T.L,∃ c∈C,bare c=bare y:=fun y hy=>List.mem_map.1 (hperm.mem_iff.2 (List.mem_map.2 ⟨y,hy,rfl⟩))
 obtain⟨c0,hc0,hc0n,hc0p⟩:=h.root
 refine⟨⟨⟨c0,?_,by rw[hc0p];exact hr⟩,fun c hc=>?_,?_,?_,?_,hss,?_,fun c hc=>h.lies.kind c ((hmem c).1 hc)⟩,?_,?_⟩
 · rw[←hc0n];exact getT_of hss ((hmem c0).2 hc0)
 · have hn:=h.lies.node c ((hmem c).1 hc)
   refine⟨hn.cells,fun b hb=>?_,hn.xs⟩
   obtain⟨M,h1,h3,h4⟩:=hn.kids b hb
   have:kidsT (sortT C) c.nm=M:=kids_is hss h1 (fun k=>(h4 k).trans (by
    constructor
    · rintro ⟨x,hx,h⟩;exact⟨x,(hmem x).2 hx,h⟩
    · rintro ⟨x,hx,h⟩;exact⟨x,(hmem x).1 hx,h⟩))
   show w1.ownsMap _ _ _ _ _ (toD ptr (kidsT (sortT C) c.nm))
   rw[this];exact h3
 · rw[List.nodup_cons]
   exact⟨fun hc=>hr2 (List.mem_append_left _ (hpo.mem_iff.1 hc)),hpo.nodup_iff.2 h.lies.nod⟩
 · intro b hb hc
   have hb:=hpx.mem_iff.1 hb
   rcases List.mem_cons.1 hc with rfl|hc
   · exact hr2 (List.mem_append_right _ hb)
   · exact h.lies.xoff b hb (hpo.mem_iff.1 hc)
 · intro b hb
   rcases List.mem_cons.1 hb with rfl|hb
   · exact h2
   · refine Nat.le_trans h0 (h.lies.fresh b ?_)
     rcases List.mem_append.1 hb with hb|hb
     · exact List.mem_append_left _ (hpo.mem_iff.1 hb)
     · exact List.mem_append_right _ (hpx.mem_iff.1 hb)
 · intro c hc n s hn
   obtain⟨y,hy,hyc⟩:=toT c ((hmem c).1 hc)
   obtain⟨u,hu,h3,h4⟩:=hT.par y hy n s ((bare_nm hyc).trans hn)
   obtain⟨u2,hu2,hb2⟩:=toC u hu
   refine⟨u2,(hmem u2).2 hu2,(bare_nm hb2).trans h3,(h.lies.kind u2 hu2).1 ?_⟩
   rw[bare_at hb2]
   exact(hT.kind u hu).2 h4
 · show Tr.mk ((sortT C).map bare) _ _ _=Tr.mk (T.L.map bare) _ _ _
   have:(sortT C).map bare=T.L.map bare:=by
    refine srt_ext ?_ ?_ (fun x=>((hpm.map bare).trans hperm).mem_iff)
    · rw[SrtT,List.pairwise_map];exact hss
    · rw[SrtT,List.pairwise_map];exact hT.srt
   rw[this]
 · intro b hb
   rcases List.mem_append.1 hb with hb|hb
   · exact List.mem_append_left _ (hpo.mem_iff.1 hb)
   · exact List.mem_append_right _ (hpx.mem_iff.1 hb)
structure TwI (w:World) (T:Tr) (e:TE) (q mb it:Nat) (v4:Value) (ws:World) (left:Lit→Bool) (ks:List (List UInt8)) (M:MV Nat) (D:List TE):Prop where
 tl:TwL (it+1) ws T e.nm ks M D
 map:ws.ownsMap Tryz.prog 9 Rv mb 1000000 (toD ptr M)
 cells:ws.heap[q]? =some (.cells (TE.cells {e with p:=q,m:=some mb,xv:=v4}).toArray NdT)
 xs:XsAt ws v4 e.at_.xs
 ks1:∀ k∈ks,(getM (kidsT T.L e.nm) k).isSome=true
 ks2:∀ k,(getM (kidsT T.L e.nm) k).isSome=true→left (.string k)=false→k∈ks
 ks3:∀ k∈ks,left (.string k)=false
 bel:Below w.heap.size w ws
 q0:w.heap.size≤q
 q1:q < mb
 q2:mb < it
 q3:it < ws.heap.size
 xb:∀ b∈xob e.at_.xs v4,w.heap.size≤b∧b < it∧b≠q∧b≠mb
theorem TwI.round {w:World} {T:Tr} {e:TE} {q mb it:Nat} {v4:Value} {ws w2 w3 w4:World} {left:Lit→Bool} {ks:List (List UInt8)} {M:MV Nat} {D C:List TE} {k:List UInt8} {p:Nat} (h:TwI w T e q mb it v4 ws left ks M D)
 (hg:ws.grownBy w2 (some it)) (hz:w2.heap.size=ws.heap.size) (hC:TwF w2.heap.size w3 T (e.nm++[k]) p C) (hb:Below w2.heap.size w2 w3) (hlk:left (.string k)=true) (hkk:(getM (kidsT T.L e.nm) k).isSome=true) (hs:SrtT T.L)
 (ht:Turn [mb] w3 w4) (hm:w4.ownsMap Tryz.prog 9 Rv mb 1000000 (toD ptr (putM M k p))):
 TwI w T e q mb it v4 w4 (fun z=>left z && !z.sameKey (.string k)) (k::ks) (putM M k p) (C++D):=by
 have q1:=h.q1;have q2:=h.q2;have q3:=h.q3;have q0:=h.q0
 have z3:=hb.size;have z4:=ht.size
 have s1:∀ b,b < ws.heap.size→b≠it→b≠mb→w4.heap[b]? =ws.heap[b]? :=fun b h1 h2 h3=>
  (ht.block b (by omega) (by simpa using h3)).trans ((hb.block b (by omega)).trans (hg.block b h1 (fun e=>by injection e with e;omega)))
 refine⟨?_,hm,(s1 q (by omega) (by omega) (by omega)).trans h.cells,h.xs.kept (by omega) (fun b hb'=>?_),?_,?_,?_,?_,q0,q1,q2,by omega,h.xb⟩
 · have t2:TwL (it+1) w2 T e.nm ks M D:=h.tl.kept (by omega) (fun b h1 h2=>hg.block b h2 (fun e=>by injection e with e;omega))
   have t3:=t2.step hC hb (by omega) (fun hk=>by rw[h.ks3 k hk] at hlk;cases hlk) hs
   exact t3.kept ht.size (fun b h1 h2=>ht.block b h2 (by simp;omega))
 · obtain⟨_,h2,_,h4⟩:=h.xb b hb'
   exact s1 b (by omega) (by omega) h4
 · intro k' hk'
   rcases List.mem_cons.1 hk' with rfl|hk'
   · exact hkk
   · exact h.ks1 k' hk'
 · intro k' hk' hl
   simp only[Bool.and_eq_false_iff,Bool.not_eq_false',sameKey_string,beq_iff_eq] at hl
   rcases hl with hl|rfl
   · exact List.mem_cons_of_mem _ (h.ks2 k' hk' hl)
   · exact List.mem_cons_self ..
 · intro k' hk'
   simp only[Bool.and_eq_false_iff,Bool.not_eq_false',sameKey_string,beq_iff_eq]
   rcases List.mem_cons.1 hk' with rfl|hk'
   · exact .inr rfl
   · exact .inl (h.ks3 k' hk')
 · have b2:Below w.heap.size w w2:=h.bel.grown hg h.bel.size (fun y hy=>by obtain rfl:=Option.some.inj hy;omega)
   have b3:=b2.trans (hb.mono (by omega))
   exact b3.trans (ht.below (fun x hx=>by obtain rfl:=List.mem_singleton.1 hx;omega) (by omega))
theorem TwI.pl {w:World} {T:Tr} {e:TE} {q mb it:Nat} {v4:Value} {ws w2 w3:World} {left:Lit→Bool} {ks:List (List UInt8)} {M:MV Nat} {D C:List TE} {k:List UInt8} {p:Nat} (h:TwI w T e q mb it v4 ws left ks M D)
 (hg:ws.grownBy w2 (some it)) (hz:w2.heap.size=ws.heap.size) (hC:TwF w2.heap.size w3 T (e.nm++[k]) p C) (hb:Below w2.heap.size w2 w3) (hlk:left (.string k)=true) (hkk:(getM (kidsT T.L e.nm) k).isSome=true) (hs:SrtT T.L)
 (hl:(kidsT T.L e.nm).length≤1000000):(putM M k p).length≤1000000:=by
 have q3:=h.q3
 have t2:TwL (it+1) w2 T e.nm ks M D:=h.tl.kept (by omega) (fun b h1 h2=>hg.block b h2 (fun e=>by injection e with e;omega))
 have t3:=t2.step hC hb (by omega) (fun hk=>by rw[h.ks3 k hk] at hlk;cases hlk) hs
 refine Nat.le_trans (t3.len (N:=kidsT T.L e.nm) (fun k' hk'=>getM_has.1 ?_)) hl
 rcases List.mem_cons.1 hk' with rfl|hk'
 · exact hkk
 · exact h.ks1 k' hk'
theorem TwI.fin {w:World} {T:Tr} {e:TE} {q mb it:Nat} {v4:Value} {ws:World} {left:Lit→Bool} {ks:List (List UInt8)} {M:MV Nat} {D:List TE} (h:TwI w T e q mb it v4 ws left ks M D) (hl:∀ kl,left kl=false) (he:e∈T.L) (hs:SrtT T.L) (hp:ParT T.L)
 (hk:e.at_.node=2):TwF w.heap.size ws T e.nm q ({e with p:=q,m:=some mb,xv:=v4}::D):=by
 have q1:=h.q1;have q2:=h.q2;have q3:=h.q3;have q0:=h.q0
 refine h.tl.done (w0:=w.heap.size) (c0:={e with p:=q,m:=some mb,xv:=v4}) he hs hp (fun k=>⟨fun hk=>h.ks2 k hk (hl _),h.ks1 k⟩) rfl h.cells (fun b hb=>?_) h.xs ?_ ?_ ?_ (by omega) ⟨fun _=>by simp,fun _=>hk⟩
 · obtain rfl:=Option.some.inj hb;exact h.map
 · simp[ownE];omega
 · intro b hb
   obtain⟨_,_,h3,h4⟩:=h.xb b hb
   simp[ownE];exact⟨h3,h4⟩
 · intro b hb
   rcases List.mem_append.1 hb with hb|hb
   · simp[ownE] at hb;omega
   · obtain⟨h1,h2,_⟩:=h.xb b hb;omega
theorem tw_leaf {B:Nat} {w ws:World} {r:Nat} {T:Tr} {e:TE} {q:Nat} {v4:Value} (hT:TreeAt B w r T) (he:e∈T.L) (hm:e.m=none) (hc:ws.heap[q]? =some (.cells (TE.cells {e with p:=q,xv:=v4}).toArray NdT)) (hx:XsAt ws v4 e.at_.xs)
 (q0:w.heap.size≤q) (hlt:q < ws.heap.size) (xb:∀ b∈xob e.at_.xs v4,w.heap.size≤b∧b < ws.heap.size∧b≠q):TwF w.heap.size ws T e.nm q [{e with p:=q,xv:=v4}]:=by
 refine(TwL.nil ws.heap.size ws T e.nm).done (w0:=w.heap.size) (c0:={e with p:=q,xv:=v4}) he hT.srt hT.parT (no_kids hT he hm) rfl hc (fun b hb=>?_) hx ?_ ?_ ?_ (by omega) (hT.kind e he)
 · rw[show ({e with p:=q,xv:=v4}:TE).m=none from hm] at hb;cases hb
 · simp[ownE,hm]
 · intro b hb
   obtain⟨_,_,h3⟩:=xb b hb
   simp[ownE,hm];exact h3
 · intro b hb
   rcases List.mem_append.1 hb with hb|hb
   · simp[ownE,hm] at hb;omega
   · obtain⟨h1,h2,_⟩:=xb b hb;omega
end Go.Proofs.YtnmejonfdfdegaaGreatDoor.Sr
