import Derived.Test.YtnmejonfdfdegaaGreatDoorZPSrAdd
import Derived.Test.YtnmejonfdfdegaaGreatDoorZPSrOwn
import Derived.Test.YtnmejonfdfdegaaGreatDoorZPSrChanged
import Derived.Test.YtnmejonfdfdegaaGreatDoorZPZz
set_option linter.unusedSimpArgs false
set_option linter.unusedVariables false
set_option maxHeartbeats 8000000
set_option maxRecDepth 100000
namespace Go.Proofs.YtnmejonfdfdegaaGreatDoor.Sr
open Go.RowKit Go.Maps Go.WideMaps Rf Go.Proofs.YtnmejonfdfdegaaGreatDoor.Nm St
def rootE (p m:Nat):TE:=⟨[],1,0,⟨2,493,0,0,0,[],[]⟩,[],p,some m,.slice none 0 0⟩
def newT (p m:Nat):Tr:=⟨[rootE p m],0,1,0⟩
theorem tree_new (w:World):
 Calls Tryz.prog 5 #[] w fun e w'=>∃ r p m,e= .returned (ptr r)∧TreeAt w.heap.size w' r (newT p m)∧Below w.heap.size w w':=by
 have hmm:= @run_makeMap Tryz.prog
 go_enter Tryz.func5,Tryz.ntmps5
 go_wp2
 go_ret
 obtain⟨n,hn⟩:∃ n,n=w.heap.size:=⟨_,rfl⟩
 obtain⟨A,hA⟩:∃ A,A=w.alloc (.map #[] 0):=⟨_,rfl⟩
 have sA:A.heap.size=n+1:=by rw[hA,one_size,hn]
 obtain⟨C,hC⟩:∃ C,C=A.alloc (.cells (rootE (n+1) n).cells.toArray NdT):=⟨_,rfl⟩
 have sC:C.heap.size=n+1+1:=by rw[hC,one_size,sA]
 obtain⟨D,hD⟩:∃ D,D=C.alloc (.cells #[ptr (n+1),.int .i64 0,.int .u64 1,.int .i64 0] TrT):=⟨_,rfl⟩
 have qC:C.heap[n+1]? =some (.cells (rootE (n+1) n).cells.toArray NdT):=by rw[hC,←sA];exact(MapKept.heap_alloc A _).1
 have qD:D.heap[n+1+1]? =some (.cells #[ptr (n+1),.int .i64 0,.int .u64 1,.int .i64 0] TrT):=by rw[hD,←sC];exact(MapKept.heap_alloc C _).1
 have bD:Below n w D:=by
  rw[hD,hC,hA]
  exact(((Below.refl _ _).alloc (by omega) _).alloc (by rw[one_size];omega) _).alloc (by rw[one_size,one_size];omega) _
 have mA:A.ownsMap Tryz.prog 9 Rv n 1000000 (toD ptr ([]:MV Nat)):=by
  rw[hA,hn];exact map_tight (enc:=ptr) (m:=([]:MV Nat)) (World.ownsMap_made w Tryz.prog 9 Rv) (by decide)
 have mD:D.ownsMap Tryz.prog 9 Rv n 1000000 (toD ptr ([]:MV Nat)):=by rw[hD,hC];exact(mA.alloc _).alloc _
 have hk:kidsT [rootE (n+1) n] []=[]:=rfl
 refine⟨n+1+1,n+1,n,by rw[hn];rfl,?_,?_⟩
 · show TreeAt w.heap.size _ _ _
   have hE:((w.alloc (.map #[] 0)).alloc (.cells (rootE (w.heap.size+1) w.heap.size).cells.toArray NdT)).alloc (.cells #[ptr (w.heap.size+1),.int .i64 0,.int .u64 1,.int .i64 0] TrT)=D:=by rw[hD,hC,hA,hn]
   have hT:TreeAt n D (n+1+1) (newT (n+1) n):=by
    refine⟨⟨rootE (n+1) n,rfl,qD⟩,fun e he=>?_,?_,?_,?_,List.pairwise_singleton _ _,?_,?_⟩
    · obtain rfl:=List.mem_singleton.1 he
      refine⟨by rw[hD];exact at_alloc qC _,fun b hb=>?_,⟨none,0,rfl,Nat.zero_le _,by simp[rootE],by simp[rootE]⟩⟩
      obtain rfl:=Option.some.inj hb
      exact mD
    · show((n+1+1)::ownL [rootE (n+1) n]).Nodup
      simp[ownL,ownE,rootE];omega
    · intro b hb
      simp[xobL,newT,rootE,xob] at hb
    · intro b hb
      simp[ownL,ownE,xobL,xob,newT,rootE] at hb
      omega
    · intro e he m s hm
      obtain rfl:=List.mem_singleton.1 he
      have:=congrArg List.length hm
      simp[rootE] at this
    · intro e he
      obtain rfl:=List.mem_singleton.1 he
      simp[rootE]
   rw[←hE] at hT
   subst hn
   exact hT
 · have:((w.alloc (.map #[] 0)).alloc (.cells (rootE (w.heap.size+1) w.heap.size).cells.toArray NdT)).alloc (.cells #[ptr (w.heap.size+1),.int .i64 0,.int .u64 1,.int .i64 0] TrT)=D:=by rw[hD,hC,hA,hn]
   rw[←this] at bD
   subst hn
   exact bD
def asFile (A:XA):XA:={A with node:=1,target:=[]}
theorem file_any (B:Nat) (w:World) (r:Nat) (T:Tr) (p d:List UInt8) (A:XA) (v:Value) (hp:p.length≤4611686018427387904) (hd:d.length≤4611686018427387904) (hv:XsAt w v A.xs) (hvr:∀ b∈xob A.xs v,b≠r) (hmost:T.most < 18446744073709551615) (h:TreeAt B w r T):
 Calls Tryz.prog 24 #[ptr r,.string ⟨p.toArray⟩,.string ⟨d.toArray⟩,.agg (A.cells v).toArray] w fun e w'=>∃ W,Below w.heap.size w W∧TreeAt B W r T∧AddPost B W r T p d (asFile A) e w':=by
 obtain⟨W,hW⟩:∃ W,W=w.alloc (.cells (((A.cells v).set 0 (.int .u8 1)).set 5 (.string ⟨#[]⟩)).toArray AtT):=⟨_,rfl⟩
 have q2:W.heap[w.heap.size]? =some (.cells ((asFile A).cells v).toArray AtT):=by rw[hW];exact(MapKept.heap_alloc w _).1
 have hb:Below w.heap.size w W:=by rw[hW];exact(Below.refl _ _).alloc (Nat.le_refl _) _
 have q0:(w.alloc (.cells (A.cells v).toArray AtT)).heap[w.heap.size]? =some (.cells (A.cells v).toArray AtT):=(MapKept.heap_alloc w _).1
 have hT:=h.below hb
 have hX:XsAt W v (asFile A).xs:=hv.kept hb.size (fun b hb'=>hb.block b (hv.lt b hb'))
 have AD:=Lib.hid (add_any B W r T p d (asFile A) v hp hd hX hvr hmost hT)
 have HQ2:Hid (W.heap[w.heap.size]? =some (.cells ((asFile A).cells v).toArray AtT)):=Lib.hid q2
 have HB:=Lib.hid hb;have HT:=Lib.hid hT;have HW:=Lib.hid hW
 have k0:(w.alloc (.cells (A.cells v).toArray AtT)).cell? ⟨w.heap.size,0,none⟩=some (.int .u8 (A.node:Int)):=cell_of_heap q0
 have f0:(w.alloc (.cells (A.cells v).toArray AtT)).frozen? ⟨w.heap.size,0,none⟩=false:=frozen_of_heap q0
 unfold ptr at*
 clear h hv hvr hmost hT hX q0 q2 hb hW
 go_enter Tryz.func24,Tryz.ntmps24
 go_wp2_with (first
  |(refine Sh.wpList_load_at (T:=AtT) (cs:=((asFile A).cells v).toArray) (by rw[←HW.out];exact HQ2.out) rfl AtT (.tmp 7) rfl rfl _ Tryz.underlying79 rfl (infoAt _ _) ?_)
  |fail)
 rw[←HW.out]
 refine AD.out.mono ?_
 rintro ex w1 ⟨rfl,hno,hyes⟩
 have HNO:=Lib.hid hno;have HYES:=Lib.hid hyes
 clear hno hyes AD
 go_wp2
 go_ret
 exact⟨W,HB.out,HT.out,rfl,HNO.out,HYES.out⟩
structure Good (k:Nat) (T:Tr):Prop where
 deep:∀ e∈T.L,e.nm.length≤16
 names:∀ e∈T.L,∀ s∈e.nm,chk s=true
 att:∀ e∈T.L,chkA e.at_=true
 data:∀ e∈T.L,e.data.length≤1048576
 ino:∀ e∈T.L,1≤e.ino∧e.ino≤T.most
 inos:T.L.Pairwise fun a b=>a.ino≠b.ino
 tick:∀ e∈T.L,0≤e.tick∧e.tick≤(T.clock:Int)
 clock:T.clock≤1099511627776
 most:T.most≤k+1
 len:T.L.length≤k+1
theorem chkA_parts {A:XA} (h:chkA A=true):1≤A.node∧A.node≤3∧A.xs.length≤16∧A.target.length≤1024:=by
 simp only[chkA,Bool.and_eq_true,decide_eq_true_eq] at h
 exact⟨h.1.1,h.1.2.1,h.2.2.2.2.1,h.2.2.1⟩
theorem pathOf_len:∀ {n:PN},(∀ s∈n,chk s=true)→(pathOf n).length≤256*n.length
 |[],_=>by simp[pathOf]
 |a::r,h=>by
  have h1:=(chk_le (h a (by simp))).1
  have h2:=pathOf_len (n:=r) (fun s hs=>h s (List.mem_cons_of_mem _ hs))
  rw[pathOf] at h2 ⊢
  rw[List.flatMap_cons,List.length_append,List.length_cons,List.length_cons]
  omega
theorem kids_le (L:List TE) (n:PN):(kidsT L n).length≤L.length:=List.length_filterMap_le _ _
theorem Good.fine {k:Nat} {T:Tr} (h:Good k T) (hk:k≤500000):Fine T:=
 ⟨fun e he=>by have:=(chkA_parts (h.att e he)).2.2.1;omega,
  fun e he=>⟨by have:=pathOf_len (h.names e he);have:=h.deep e he;omega,fun s hs=>by have:=(chk_le (h.names e he s hs)).1;unfold maxLen;omega⟩,
  fun e _=>by have:=kids_le T.L e.nm;have:=h.len;omega⟩
theorem good_new (p m:Nat):Good 0 (newT p m):=by
 refine⟨?_,?_,?_,?_,?_,List.pairwise_singleton _ _,?_,by show 0≤_;omega,Nat.le_refl _,Nat.le_refl _⟩ <;> (intro e he;obtain rfl:=List.mem_singleton.1 he)
 · exact Nat.zero_le _
 · intro s hs;cases hs
 · show chkA ⟨2,493,0,0,0,[],[]⟩=true;decide+kernel
 · exact Nat.zero_le _
 · exact⟨Nat.le_refl _,Nat.le_refl _⟩
 · exact⟨Int.le_refl _,Int.le_refl _⟩
theorem Good.mono {k k':Nat} {T:Tr} (h:Good k T) (hk:k≤k'):Good k' T:=
 ⟨h.deep,h.names,h.att,h.data,h.ino,h.inos,h.tick,h.clock,by have:=h.most;omega,by have:=h.len;omega⟩
inductive ChT:Tr→Tr→Prop
 |same (T:Tr):ChT T T
 |add {T:Tr} (n u:TE) (hu:u∈T.L) (hun:n.nm≠[]∧u.nm=n.nm.dropLast) (hno:getT n.nm T.L=none) (hi:n.ino=T.most+1) (ht:n.tick=0) (hc:T.clock < 1099511627776) (hd:n.data.length≤1048576) (ha:chkA n.at_=true) (hnm:n.nm.length≤16∧∀ s∈n.nm,chk s=true):
   ChT T {T with clock:=T.clock+1,most:=T.most+1,L:=tickT [n.p,u.p] ((T.clock+1:Nat):Int) (insT n T.L)}
 |upd {T:Tr} (n n':TE) (hn:n∈T.L) (hs:n'.nm=n.nm∧n'.ino=n.ino∧n'.p=n.p∧n'.m=n.m∧n'.tick=n.tick∧n'.at_.node=n.at_.node) (hc:T.clock < 1099511627776) (hd:n'.data.length≤1048576) (ha:chkA n'.at_=true):
   ChT T {T with clock:=T.clock+1,L:=tickT [n.p] ((T.clock+1:Nat):Int) (updT n' T.L)}
 |del {T:Tr} (n u:TE) (hn:n∈T.L) (hne:n.nm≠[]) (hu:u∈T.L) (hun:u.nm=n.nm.dropLast) (hc:T.clock < 1099511627776):
   ChT T {T with clock:=T.clock+1,L:=tickT [u.p] ((T.clock+1:Nat):Int) (dropT n.nm T.L)}
 |move {T:Tr} (a0 b0:PN) (sa sb:List UInt8) (n u d:TE) (k:MoveOk a0 b0 sa sb T.L n d) (hu:u∈T.L) (hun:u.nm=a0) (hc:T.clock < 1099511627776) (hb:(b0++[sb]).length+deepN T.L (a0++[sa])≤16) (hnm:∀ s∈b0++[sb],chk s=true):
   ChT T {T with clock:=T.clock+1,L:=tickT [u.p,d.p] ((T.clock+1:Nat):Int) (moveT (a0++[sa]) (b0++[sb]) T.L)}
theorem tickT_mem {qs:List Nat} {c:Int}:∀ {L:List TE} {x':TE},x'∈tickT qs c L→∃ x∈L,x'=x∨x'={x with tick:=c}:=by
 induction qs with
 |nil=>intro L x' h;exact⟨x',h,.inl rfl⟩
 |cons q r ih=>
  intro L x' h
  obtain⟨y,hy,h2⟩:=ih (L:=tick1 q c L) h
  obtain⟨x,hx,rfl⟩:=List.mem_map.1 hy
  refine⟨x,hx,?_⟩
  by_cases hq:x.p=q
  · rw[if_pos hq] at h2;exact .inr (by rcases h2 with h2|h2 <;> rw[h2])
  · rw[if_neg hq] at h2;exact h2
theorem tickT_len (qs:List Nat) (c:Int):∀ L:List TE,(tickT qs c L).length=L.length:=by
 induction qs with
 |nil=>intro L;rfl
 |cons q r ih=>intro L;show(tickT r c (tick1 q c L)).length=_;rw[ih];exact List.length_map _
theorem tickT_ino (qs:List Nat) (c:Int):∀ L:List TE,(tickT qs c L).map TE.ino=L.map TE.ino:=by
 induction qs with
 |nil=>intro L;rfl
 |cons q r ih=>
  intro L
  show(tickT r c (tick1 q c L)).map TE.ino=_
  rw[ih,tick1,List.map_map]
  refine List.map_congr_left (fun x _=>?_)
  show TE.ino (if x.p=q then _ else x)=x.ino
  split <;> rfl
theorem inos_map {L:List TE}:(L.Pairwise fun a b=>a.ino≠b.ino) ↔ (L.map TE.ino).Nodup:=by rw[List.Nodup,List.pairwise_map]
structure Hist (T T':Tr):Prop where
 clock:T.clock≤T'.clock
 most:T.most≤T'.most
 node:∀ x'∈T'.L,(∃ x∈T.L,x'.ino=x.ino∧x'.data=x.data∧x'.at_=x.at_∧x'.tick=x.tick)∨(x'.tick=((T.clock+1:Nat):Int)∧T'.clock=T.clock+1)
theorem Hist.refl (T:Tr):Hist T T:=⟨Nat.le_refl _,Nat.le_refl _,fun x hx=> .inl ⟨x,hx,rfl,rfl,rfl,rfl⟩⟩
theorem ChT.hist {T T':Tr} (h:ChT T T'):Hist T T':=by
 have key:∀ {L:List TE} {qs:List Nat} {x':TE},x'∈tickT qs ((T.clock+1:Nat):Int) L→(∃ x∈L,x'=x)∨x'.tick=((T.clock+1:Nat):Int):=by
  intro L qs x' hx
  obtain⟨x,hx,h1|h1⟩:=tickT_mem hx
  · exact .inl ⟨x,hx,h1⟩
  · exact .inr (by rw[h1])
 cases h with
 |same=>exact .refl T
 |add n u hu hun hno hi ht hc hd ha hnm=>
  refine⟨Nat.le_succ _,Nat.le_succ _,fun x' hx'=>?_⟩
  have hq:tickT [n.p,u.p] ((T.clock+1:Nat):Int) (insT n T.L)=tickT [u.p] ((T.clock+1:Nat):Int) (tick1 n.p ((T.clock+1:Nat):Int) (insT n T.L)):=rfl
  have hx1:x'∈tickT [u.p] ((T.clock+1:Nat):Int) (tick1 n.p ((T.clock+1:Nat):Int) (insT n T.L)):=hx'
  rcases key hx1 with⟨y,hy,rfl⟩|h1
  · obtain⟨x,hx,rfl⟩:=List.mem_map.1 hy
    by_cases hp:x.p=n.p
    · exact .inr ⟨by rw[if_pos hp],rfl⟩
    · rw[if_neg hp]
      rcases mem_insT.1 hx with rfl|hx
      · exact absurd rfl hp
      · exact .inl ⟨x,hx,rfl,rfl,rfl,rfl⟩
  · exact .inr ⟨h1,rfl⟩
 |upd n n' hn hs hc hd ha=>
  refine⟨Nat.le_succ _,Nat.le_refl _,fun x' hx'=>?_⟩
  have hx1:x'∈tick1 n.p ((T.clock+1:Nat):Int) (updT n' T.L):=hx'
  obtain⟨y,hy,rfl⟩:=List.mem_map.1 hx1
  obtain⟨x,hx,rfl⟩:=List.mem_map.1 hy
  by_cases hp:x.p=n'.p
  · rw[if_pos hp,if_pos hs.2.2.1];exact .inr ⟨rfl,rfl⟩
  · rw[if_neg hp,if_neg (by rw[←hs.2.2.1];exact hp)]
    exact .inl ⟨x,hx,rfl,rfl,rfl,rfl⟩
 |del n u hn hne hu hun hc=>
  refine⟨Nat.le_succ _,Nat.le_refl _,fun x' hx'=>?_⟩
  rcases key hx' with⟨y,hy,rfl⟩|h1
  · exact .inl ⟨x',(dropT_mem.1 hy).1,rfl,rfl,rfl,rfl⟩
  · exact .inr ⟨h1,rfl⟩
 |move a0 b0 sa sb n u d k hu hun hc hb hnm=>
  refine⟨Nat.le_succ _,Nat.le_refl _,fun x' hx'=>?_⟩
  rcases key hx' with⟨y,hy,rfl⟩|h1
  · obtain⟨x,hx,rfl⟩:=moveT_mem.1 hy
    exact .inl ⟨x,hx,rfl,rfl,rfl,rfl⟩
  · exact .inr ⟨h1,rfl⟩
theorem good_tick {k:Nat} {T:Tr} {L:List TE} {m:Nat} {qs:List Nat} (hc:T.clock < 1099511627776) (h:Good k {T with clock:=T.clock+1,most:=m,L:=L}):Good k {T with clock:=T.clock+1,most:=m,L:=tickT qs ((T.clock+1:Nat):Int) L}:=by
 have key:∀ {x':TE},x'∈tickT qs ((T.clock+1:Nat):Int) L→∃ x∈L,x'.nm=x.nm∧x'.at_=x.at_∧x'.data=x.data∧x'.ino=x.ino∧(x'.tick=x.tick∨x'.tick=((T.clock+1:Nat):Int)):=by
  intro x' hx'
  obtain⟨x,hx,rfl|rfl⟩:=tickT_mem hx'
  · exact⟨_,hx,rfl,rfl,rfl,rfl,.inl rfl⟩
  · exact⟨_,hx,rfl,rfl,rfl,rfl,.inr rfl⟩
 refine⟨fun e he=>?_,fun e he=>?_,fun e he=>?_,fun e he=>?_,fun e he=>?_,?_,fun e he=>?_,h.clock,h.most,?_⟩
 · obtain⟨x,hx,h1,_⟩:=key he;rw[h1];exact h.deep x hx
 · obtain⟨x,hx,h1,_⟩:=key he;rw[h1];exact h.names x hx
 · obtain⟨x,hx,_,h1,_⟩:=key he;rw[h1];exact h.att x hx
 · obtain⟨x,hx,_,_,h1,_⟩:=key he;rw[h1];exact h.data x hx
 · obtain⟨x,hx,_,_,_,h1,_⟩:=key he;rw[h1];exact h.ino x hx
 · rw[inos_map];show((tickT qs _ L).map TE.ino).Nodup;rw[tickT_ino];exact inos_map.1 h.inos
 · obtain⟨x,hx,_,_,_,_,h1|h1⟩:=key he <;> rw[h1]
   · exact h.tick x hx
   · exact⟨by omega,Int.le_refl _⟩
 · show(tickT qs _ L).length≤_;rw[tickT_len];exact h.len
theorem ChT.good {B:Nat} {w:World} {r:Nat} {T T':Tr} (hT:TreeAt B w r T) (h:ChT T T') {k:Nat} (g:Good k T):Good (k+1) T':=by
 cases h with
 |same=>exact g.mono (Nat.le_succ _)
 |add n u hu hun hno hi ht hc hd ha hnm=>
  refine good_tick hc ⟨fun e he=>?_,fun e he=>?_,fun e he=>?_,fun e he=>?_,fun e he=>?_,?_,fun e he=>?_,by show T.clock+1≤_;omega,by show T.most+1≤_;have:=g.most;omega,?_⟩
  · rcases mem_insT.1 he with rfl|he
    · exact hnm.1
    · exact g.deep e he
  · rcases mem_insT.1 he with rfl|he
    · exact hnm.2
    · exact g.names e he
  · rcases mem_insT.1 he with rfl|he
    · exact ha
    · exact g.att e he
  · rcases mem_insT.1 he with rfl|he
    · exact hd
    · exact g.data e he
  · rcases mem_insT.1 he with rfl|he
    · show _∧_≤T.most+1;omega
    · have:=g.ino e he;show _∧_≤T.most+1;omega
  · show(insT n T.L).Pairwise _
    rw[inos_map,((insT_perm n T.L).map TE.ino).nodup_iff,List.map_cons,List.nodup_cons]
    refine⟨fun hm=>?_,inos_map.1 g.inos⟩
    obtain⟨x,hx,h1⟩:=List.mem_map.1 hm
    have:=g.ino x hx;omega
  · rcases mem_insT.1 he with rfl|he
    · rw[ht];exact⟨Int.le_refl _,by show(0:Int)≤((T.clock+1:Nat):Int);omega⟩
    · have:=g.tick e he;exact⟨this.1,by show e.tick≤((T.clock+1:Nat):Int);omega⟩
  · show(insT n T.L).length≤_
    rw[(insT_perm n T.L).length_eq,List.length_cons];have:=g.len;omega
 |upd n n' hn hs hc hd ha=>
  have key:∀ {x':TE},x'∈updT n' T.L→x'=n'∨x'∈T.L:=by
   intro x' hx'
   obtain⟨x,hx,rfl⟩:=List.mem_map.1 hx'
   split
   · exact .inl rfl
   · exact .inr hx
  refine good_tick hc ⟨fun e he=>?_,fun e he=>?_,fun e he=>?_,fun e he=>?_,fun e he=>?_,?_,fun e he=>?_,by show T.clock+1≤_;omega,by show T.most≤_;have:=g.most;omega,?_⟩
  · rcases key he with rfl|he
    · rw[hs.1];exact g.deep n hn
    · exact g.deep e he
  · rcases key he with rfl|he
    · rw[hs.1];exact g.names n hn
    · exact g.names e he
  · rcases key he with rfl|he
    · exact ha
    · exact g.att e he
  · rcases key he with rfl|he
    · exact hd
    · exact g.data e he
  · rcases key he with rfl|he
    · rw[hs.2.1];exact g.ino n hn
    · exact g.ino e he
  · show(updT n' T.L).Pairwise _
    have:(updT n' T.L).map TE.ino=T.L.map TE.ino:=by
     rw[updT,List.map_map]
     refine List.map_congr_left (fun x hx=>?_)
     show TE.ino (if x.p=n'.p then n' else x)=x.ino
     split
     · next hp=>rw [hs.2.1,hT.p_inj hx hn (hp.trans hs.2.2.1)]
     · rfl
    rw[inos_map,this];exact inos_map.1 g.inos
  · rcases key he with rfl|he
    · rw[hs.2.2.2.2.1];have:=g.tick n hn;exact⟨this.1,by show n.tick≤((T.clock+1:Nat):Int);omega⟩
    · have:=g.tick e he;exact⟨this.1,by show e.tick≤((T.clock+1:Nat):Int);omega⟩
  · show(updT n' T.L).length≤_
    rw[updT,List.length_map];have:=g.len;omega
 |del n u hn hne hu hun hc=>
  have key:∀ {x':TE},x'∈dropT n.nm T.L→x'∈T.L:=fun h=>(dropT_mem.1 h).1
  refine good_tick hc ⟨fun e he=>g.deep e (key he),fun e he=>g.names e (key he),fun e he=>g.att e (key he),fun e he=>g.data e (key he),fun e he=>g.ino e (key he),g.inos.sublist List.filter_sublist,fun e he=>?_,by show T.clock+1≤_;omega,by show T.most≤_;have:=g.most;omega,?_⟩
  · have:=g.tick e (key he);exact⟨this.1,by show e.tick≤((T.clock+1:Nat):Int);omega⟩
  · have h1:=g.len
    have h2:(dropT n.nm T.L).length≤T.L.length:=List.length_filter_le _ _
    show(dropT n.nm T.L).length≤_
    omega
 |move a0 b0 sa sb n u d mk hu hun hc hb hnm=>
  have key:∀ {x':TE},x'∈moveT (a0++[sa]) (b0++[sb]) T.L→∃ x∈T.L,x'=renE (renP (a0++[sa]) (b0++[sb])) x:=by
   intro x' hx'
   obtain⟨x,hx,rfl⟩:=moveT_mem.1 hx'
   exact⟨x,hx,rfl⟩
  refine good_tick hc ⟨fun e he=>?_,fun e he=>?_,fun e he=>?_,fun e he=>?_,fun e he=>?_,?_,fun e he=>?_,by show T.clock+1≤_;omega,by show T.most≤_;have:=g.most;omega,?_⟩
  · obtain⟨x,hx,rfl⟩:=key he
    show(renP _ _ x.nm).length≤16
    by_cases h3:(a0++[sa]) <+:x.nm
    · obtain⟨t,ht⟩:=h3
      rw[←ht,renP_in,List.length_append]
      have:=le_deepN hx ht.symm
      omega
    · rw[renP_out h3];exact g.deep x hx
  · obtain⟨x,hx,rfl⟩:=key he
    show ∀ s∈renP _ _ x.nm,_
    by_cases h3:(a0++[sa]) <+:x.nm
    · obtain⟨t,ht⟩:=h3
      rw[←ht,renP_in]
      intro s hs
      rcases List.mem_append.1 hs with hs|hs
      · exact hnm s hs
      · exact g.names x hx s (by rw[←ht];exact List.mem_append_right _ hs)
    · rw[renP_out h3];exact g.names x hx
  · obtain⟨x,hx,rfl⟩:=key he;exact g.att x hx
  · obtain⟨x,hx,rfl⟩:=key he;exact g.data x hx
  · obtain⟨x,hx,rfl⟩:=key he;exact g.ino x hx
  · show(moveT (a0++[sa]) (b0++[sb]) T.L).Pairwise _
    rw[inos_map,moveT,((sortT_perm _).map TE.ino).nodup_iff,List.map_map]
    exact inos_map.1 g.inos
  · obtain⟨x,hx,rfl⟩:=key he
    have:=g.tick x hx;exact⟨this.1,by show x.tick≤((T.clock+1:Nat):Int);omega⟩
  · show(moveT (a0++[sa]) (b0++[sb]) T.L).length≤_
    rw[moveT,(sortT_perm _).length_eq,List.length_map];have:=g.len;omega
structure CallT (B:Nat) (w:World) (r:Nat) (T:Tr) (w':World) (T':Tr):Prop where
 tree:TreeAt B w' r T'
 turn:Turn (r::ownL T.L) w w'
 own:∀ b∈ownL T'.L++xobL T'.L,b∈ownL T.L++xobL T.L∨w.heap.size≤b
 ch:ChT T T'
theorem CallT.same {B:Nat} {w w':World} {r:Nat} {T:Tr} (h:TreeAt B w r T) (hb:Below w.heap.size w w'):CallT B w r T w' T:=
 ⟨h.below hb,Turn.of_below hb,fun _ h=> .inl h,.same T⟩
end Go.Proofs.YtnmejonfdfdegaaGreatDoor.Sr
namespace Go.Proofs.YtnmejonfdfdegaaGreatDoor.Sr
open Go.RowKit Go.Maps Go.WideMaps Rf Go.Proofs.YtnmejonfdfdegaaGreatDoor.Nm St
open Lib (hid)
def CallPost (B:Nat) (w:World) (r:Nat) (T:Tr) (c:Int) (T':Tr) (e:Ending) (w':World):Prop:=e= .returned (.int .i64 c)∧CallT B w r T w' T'
theorem callPost_no {B:Nat} {w w':World} {r:Nat} {T T':Tr} {c k:Int} {e:Ending} (h:TreeAt B w r T) (hT:T'=T) (hc:c=k) (he:e= .returned (.int .i64 k)) (hb:Below w.heap.size w w'):CallPost B w r T c T' e w':=by
 subst hT hc;exact⟨he,.same h hb⟩
theorem touch_row (B:Nat) (w:World) (r:Nat) (T:Tr) (qs:List Nat) (n:Nat) (hn:n=qs.length) (hl:qs.length≤100) (hq:∀ q∈qs,∃ e∈T.L,e.p=q) (hc:T.clock < 4611686018427387904) (h:TreeAt B w r T):
 Calls Tryz.prog 63 #[ptr r,.slice (some ⟨w.heap.size,0,none⟩) n n] (w.alloc (.cells (qs.map ptr).toArray 74)) fun e w'=>e= .returned (.tuple #[])∧TreeAt B w' r {T with clock:=T.clock+1,L:=tickT qs ((T.clock+1:Nat):Int) T.L}∧Turn (r::ownL T.L) w w':=by
 subst hn
 have hb:Below w.heap.size w (w.alloc (.cells (qs.map ptr).toArray 74)):=(Below.refl _ _).alloc (Nat.le_refl _) _
 have h1:=(MapKept.heap_alloc w (.cells (qs.map ptr).toArray 74)).1
 refine(touch_any B _ r T _ qs ⟨some ⟨w.heap.size,0,none⟩,qs.length,rfl,hl,fun _=>⟨w.heap.size,0,rfl,by rw[one_size];omega,fun i q hq=>?_⟩⟩ ?_ hq hc (h.below hb)).mono ?_
 · have h2:(w.alloc (.cells (qs.map ptr).toArray 74)).cell? ⟨w.heap.size,i,none⟩=(qs.map ptr).toArray[i]? :=cell_of_heap h1
   rw[Nat.zero_add,h2,List.getElem?_toArray,List.getElem?_map,hq];rfl
 · intro b o n' c' hv hbo
   injection hv with e1 _ _
   injection e1 with e1
   injection e1 with e1 _ _
   subst e1
   have:=h.lt w.heap.size (by
    rw[List.mem_cons] at hbo ⊢
    rcases hbo with hbo|hbo
    · exact .inl hbo
    · exact .inr (List.mem_append_left _ hbo))
   omega
 · rintro e w' ⟨rfl,h3,h4⟩
   exact⟨rfl,h3,(Turn.of_below hb).trans h4 (fun y hy=> .inl hy)⟩
theorem kid_drop {w:World} {b:Nat} {m:MV Nat} (h:w.ownsMap Tryz.prog 9 Rv b 1000000 (toD ptr m)) (s:List UInt8) (hs:s.length≤maxLen) (ty:TypeId):
 ∃ w',(Builtin.delete_ #[80,9] ty #[.map (some b),.string ⟨s.toArray⟩]).run Tryz.prog w= .ok (.tuple #[]) w'∧w'.ownsMap Tryz.prog 9 Rv b 1000000 (toD ptr (delM m s))∧Turn [b] w w':=by
 obtain⟨w',hrun,hown,ht⟩:=h.drop law Tryz.underlying80 (keyK ⟨s.toArray⟩ hs) ty
 have t:=ht.grown
 have hT:Turn [b] w w':=⟨t.os,t.tape,t.output,t.size,fun k hk hx=>t.block k hk (by simpa using hx)⟩
 have e1:(⟨s.toArray⟩:ByteArray).data.toList=s:=by simp
 rw[e1,toD_del] at hown
 exact⟨w',hrun,hown,hT⟩
def dropE (p:List UInt8) (T:Tr):Int:=
 if splitE p≠0 then 10 else match getT (splitL p) T.L with
  |none=>6
  |some _=>if splitL p=[] then 1 else if 1099511627776≤T.clock then 3 else 0
def dropTr (p:List UInt8) (T:Tr):Tr:=
 if dropE p T=0 then match getT (splitL p).dropLast T.L with
  |none=>T
  |some u=>{T with clock:=T.clock+1,L:=tickT [u.p] ((T.clock+1:Nat):Int) (dropT (splitL p) T.L)}
 else T
theorem dropTr_no {p:List UInt8} {T:Tr} (h:dropE p T≠0):dropTr p T=T:=if_neg h
theorem TreeAt.up {B:Nat} {w:World} {r:Nat} {T:Tr} (h:TreeAt B w r T) {n:TE} (hn:n∈T.L) (hne:n.nm≠[]):∃ u ub sl,u∈T.L∧n.nm=u.nm++[sl]∧u.nm=n.nm.dropLast∧u.m=some ub∧getT n.nm.dropLast T.L=some u∧u.at_.node=2:=by
 have h1:=(List.dropLast_concat_getLast hne).symm
 obtain⟨u,hu,h2,h3⟩:=h.par n hn _ _ h1
 obtain⟨ub,hub⟩:=Option.ne_none_iff_exists'.1 h3
 exact⟨u,ub,n.nm.getLast hne,hu,by rw[h2];exact h1,h2,hub,by rw[←h2];exact getT_of h.srt hu,(h.kind u hu).2 h3⟩
theorem drop_any (B:Nat) (w:World) (r:Nat) (T:Tr) (p:List UInt8) (hp:p.length≤4611686018427387904) (h:TreeAt B w r T):
 Calls Tryz.prog 27 #[ptr r,.string ⟨p.toArray⟩] w (CallPost B w r T (dropE p T) (dropTr p T)):=by
 have FI:=hid (find_any B w r T p hp h)
 have H:=hid h
 clear h
 unfold ptr at*
 go_enter Tryz.func27,Tryz.ntmps27
 go_wp2_with fail
 refine FI.out.mono ?_
 rintro ex w1 ⟨v,rfl,hp1,hb1⟩
 have HP:=hid hp1;have HB:=hid hb1
 obtain⟨va,vc,rfl⟩:=rowS_slice hp1.row
 clear FI hp1 hb1
 rw[findE,findN]
 rcases splitE_cases p with h0|⟨h0,_⟩
 case inr=>
  have hc:dropE p T=10:=by rw[dropE,if_pos (by rw[h0];decide)]
  have HT:Hid (dropTr p T=T):=hid (dropTr_no (by rw[hc];decide))
  have HCC:=hid hc
  rw[if_neg (by rw[h0];decide),if_neg (by rw[h0];decide)]
  unfold ptrO
  clear h0 hc
  go_wp2
  go_ret
  exact callPost_no H.out HT.out HCC.out rfl HB.out
 rw[if_pos h0,if_pos h0]
 have HE1:Hid (dropE p T=match getT (splitL p) T.L with
  |none=>6
  |some _=>if splitL p=[] then 1 else if 1099511627776≤T.clock then 3 else 0):=hid (by rw[dropE,if_neg (by rw[h0];decide)])
 clear h0
 cases hg:getT (splitL p) T.L with
 |none=>
  have hc:dropE p T=6:=by rw[HE1.out,hg]
  have HT:Hid (dropTr p T=T):=hid (dropTr_no (by rw[hc];decide))
  have HCC:=hid hc
  unfold ptrO
  clear hg hc HE1
  go_wp2
  go_ret
  exact callPost_no H.out HT.out HCC.out rfl HB.out
 |some n=>
  have HE2:Hid (dropE p T=if splitL p=[] then 1 else if 1099511627776≤T.clock then 3 else 0):=hid (by rw[HE1.out,hg])
  obtain⟨hn,hnn⟩:=getT_nm hg
  have HN:=hid hn;have HNN:=hid hnn
  clear hg HE1 hn hnn
  unfold ptrO
  by_cases hl0:splitL p=[]
  · have hc:dropE p T=1:=by rw[HE2.out,if_pos hl0]
    have HT:Hid (dropTr p T=T):=hid (dropTr_no (by rw[hc];decide))
    have HCC:=hid hc
    have hz:(splitL p).length=0:=by rw[hl0];rfl
    clear hc HE2 hl0
    rw[hz]
    go_wp2
    go_ret
    exact callPost_no H.out HT.out HCC.out rfl HB.out
  have HE3:Hid (dropE p T=if 1099511627776≤T.clock then 3 else 0):=hid (by rw[HE2.out,if_neg hl0])
  have hlp:0 < (splitL p).length:=List.length_pos_iff.2 hl0
  have hlp2:(0:Int) < ((splitL p).length:Int):=by omega
  have hlz:(((splitL p).length:Int)==0)=false:=by rw[beq_eq_false_iff_ne];omega
  have H1:=hid (H.out.below HB.out)
  have ST:=still_any B w1 r T H1.out
  unfold ptr at ST
  clear HE2
  by_cases hst:1099511627776≤T.clock
  · have hc:dropE p T=3:=by rw[HE3.out,if_pos hst]
    have HT:Hid (dropTr p T=T):=hid (dropTr_no (by rw[hc];decide))
    have HCC:=hid hc
    rw[decide_eq_true hst] at ST
    have ST:=hid ST
    clear HE3 hst hc hl0
    go_wp2_with fail
    refine ST.out.mono ?_
    rintro ex w2 ⟨rfl,hw2⟩
    obtain rfl:w1=w2:=hw2.symm
    go_wp2
    go_ret
    exact callPost_no H.out HT.out HCC.out rfl HB.out
  have hc:dropE p T=0:=by rw[HE3.out,if_neg hst]
  obtain⟨u,ub,sl,hu,hnu,hun,hub,hgu,hu2⟩:=H.out.up HN.out (by rw[HNN.out];exact hl0)
  rw[HNN.out] at hnu hun hgu
  have HT:Hid (dropTr p T={T with clock:=T.clock+1,L:=tickT [u.p] ((T.clock+1:Nat):Int) (dropT (splitL p) T.L)}):=hid (by rw[dropTr,if_pos hc,hgu])
  have HAE:Hid (abvE (splitL p) T.L=0):=hid (by rw[abvE,hgu];simp[hu2])
  have HAN:Hid (abvN (splitL p) T.L=some u):=hid (by rw[abvN,hgu];simp[hu2])
  have HCC:=hid hc
  rw[decide_eq_false hst] at ST
  have ST:=hid ST
  have AB:=above_any B w.heap.size w1 r T (.slice va (splitL p).length vc) (splitL p) hl0 (splitL_short p) HP.out H1.out
  rw[HAE.out,HAN.out] at AB
  have AB:=hid AB
  have HL0:=hid hl0
  have HCL:Hid (T.clock < 1099511627776):=hid (by omega)
  have HUM:=hid hu;have HNU:=hid hnu;have HUN:=hid hun;have HUB:=hid hub
  obtain⟨gl,vc',hve,hgl,hgw,hgc,hrow⟩:=rowS_form HP.out.row (by omega)
  obtain⟨rfl,rfl⟩:va=some ⟨gl,0,none⟩∧vc=vc':=by injection hve with e1 _ e3;exact⟨e1,e3⟩
  have hcm:vc≤9223372036854775807:=by
   rcases HP.out.row with⟨_,⟨_,h0'⟩|⟨g',cap',cur,hv',_,_,h1,h2,_⟩⟩
   · omega
   · injection hv' with e1 e2 e3;rw[e3];unfold maxLen at h2;exact h2
  have hlast:(splitL p)[(splitL p).length - 1]? =some sl:=by rw[hnu,List.length_append];simp
  have hcl:w1.cell? ⟨gl,(splitL p).length - 1,none⟩=some (.string ⟨sl.toArray⟩):=hrow _ _ (by rw[List.getElem?_map,hlast];rfl)
  have HSLL:Hid (sl.length≤maxLen):=hid (HP.out.len sl (List.mem_of_getElem? hlast))
  have hcu:w1.cell? ⟨u.p,10,none⟩=some (.map (some ub)):=by
   have:w1.cell? ⟨u.p,10,none⟩=some (mapV u.m):=cell_of_heap (H1.out.node u hu).cells
   rw[hub] at this;exact this
  have HS2:Hid (w1.drew.cell? ⟨u.p,10,none⟩=some (.map (some ub))∧w1.drew.cell? ⟨gl,(splitL p).length - 1,none⟩=some (.string ⟨sl.toArray⟩)):=hid ⟨hcu,hcl⟩
  have hi1:((splitL p).length:Int) - 1≤(vc:Int):=by omega
  have hi0:(0:Int)≤((splitL p).length:Int) - 1:=by omega
  have hi3:(1:Int)≤((splitL p).length:Int):=by omega
  have hi2:((splitL p).length:Int) - 1 < ((splitL p).length:Int):=by omega
  have hlm:=splitL_short p
  have hwr:IntKind.i64.wrap (((splitL p).length:Int) - 1)=((splitL p).length:Int) - 1:=by rw[IntKind.wrap_i64];omega
  have htn:(((splitL p).length:Int) - 1).toNat=(splitL p).length - 1:=by omega
  have hmapu:=((H1.out.below (Below.refl _ _).drew).node u hu).kids ub hub
  obtain⟨w3,hrun3,hmap3,ht3⟩:=kid_drop (w:=w1.drew) hmapu sl HSLL.out 0
  have HT3:Hid (Turn [ub] w1 w3):=hid ((Turn.of_below (Below.refl w1.heap.size w1).drew).trans ht3 (fun y hy=> .inl hy))
  have HUO:Hid (ub∈ownL T.L):=hid (ownL_mem2 hu hub)
  have HUW:Hid (ub < w.heap.size):=hid (H.out.lt ub (by simp[HUO.out]))
  have HS3:Hid (w3.cell? ⟨u.p,10,none⟩=some (.map (some ub))∧w3.cell? ⟨gl,(splitL p).length - 1,none⟩=some (.string ⟨sl.toArray⟩)):=hid (by
   refine⟨(World.cell?_of_block (a:=⟨u.p,10,none⟩) (HT3.out.block _ (H1.out.lt u.p (by have:=ownL_mem hu;simp[this])) ?_)).trans hcu,(World.cell?_of_block (a:=⟨gl,(splitL p).length - 1,none⟩) (HT3.out.block _ hgl ?_)).trans hcl⟩
   · have hnd:=own_nodE H.out.own_nod hu
     rw[ownE,List.nodup_cons,hub] at hnd
     simpa using hnd.1
   · have:=HUW.out
     simp;omega)
  have HTI:Hid (TreeAt B w3 r {T with L:=dropT (splitL p) T.L}):=hid (by
   rw[hnu]
   exact H1.out.del (n0:=u.nm) (s:=sl) hu rfl hub hmap3 (fun b hb hne=>HT3.out.block b (H1.out.lt b hb) (by simpa using hne)) HT3.out.size)
  have HUD:Hid (∃ e∈dropT (splitL p) T.L,e.p=u.p):=hid ⟨u,dropT_mem.2 ⟨hu,fun hpre=>by rw[hnu] at hpre;have:=hpre.length_le;rw[List.length_append] at this;simp only[List.length_cons,List.length_nil] at this;omega⟩,rfl⟩
  clear HE3 hst hc hl0 hmapu hmap3 ht3 hu hnu hun hub hgu hu2 hrow hve hlast hcl hcu
  unfold ptr ptrO at AB
  go_wp2_with fail
  refine ST.out.mono ?_
  rintro ex w2 ⟨rfl,hw2⟩
  obtain rfl:w1=w2:=hw2.symm
  go_wp2_with fail
  refine AB.out.mono ?_
  rintro ex w2 ⟨rfl,hw2⟩
  obtain rfl:w1=w2:=hw2.symm
  go_wp2
  refine wp_region_held_drew (S:=(fun w':World=>w'.cell? ⟨u.p,10,none⟩=some (.map (some ub))∧w'.cell? ⟨gl,(splitL p).length - 1,none⟩=some (.string ⟨sl.toArray⟩))) (by kernel_rfl) HS2.out (fun zh=>?_)
  iterate 10
   first|refine' tj 0 rfl rfl (fun _ _ _ h=>h) ?_ zh ?_|refine' tj 1 rfl rfl (fun _ _ _ h=>h) ?_ zh ?_|refine' tj 2 rfl rfl (fun _ _ _ h=>h) ?_ zh ?_|refine' tj 3 rfl rfl (fun _ _ _ h=>h) ?_ zh ?_|refine' tj 4 rfl rfl (fun _ _ _ h=>h) ?_ zh ?_|refine' tj 5 rfl rfl (fun _ _ _ h=>h) ?_ zh ?_|refine' tj 6 rfl rfl (fun _ _ _ h=>h) ?_ zh ?_|refine' tj 7 rfl rfl (fun _ _ _ h=>h) ?_ zh ?_|refine' tj 8 rfl rfl (fun _ _ _ h=>h) ?_ zh ?_|refine' tj 9 rfl rfl (fun _ _ _ h=>h) ?_ zh ?_
   rotate_left
   · intro wS hS;obtain⟨k0,k1⟩:=hS;go_simp;try rfl
   try simp only[Act.put,zA,zB,zC,zD,zE,zF]
  refine wpAnyH_ready (rs:=[10]) (by kernel_rfl) (by simp) ?_
  refine AllReadyH.cons rfl (fun K hK=>?_) AllReadyH.nil
  go_simp
  refine hK.out _ _ HS3.out ?_
  clear hK K zh
  intro zh
  try simp only[Act.put,zA,zB,zC,zD,zE,zF]
  refine wpAnyH_done (by kernel_rfl) ?_ _
  clear zh
  try simp only[Act.put,zA,zB,zC,zD,zE,zF]
  go_wp2_with fail
  refine(touch_row B w3 r {T with L:=dropT (splitL p) T.L} [u.p] 1 rfl (by simp) (by intro q hq;rw[List.mem_singleton] at hq;subst hq;exact HUD.out) (by have:=HCL.out;show T.clock < _;omega) HTI.out).mono ?_
  rintro ex w4 ⟨rfl,ht4,hu4⟩
  have HT4:=hid ht4;have HU4:=hid hu4
  clear ht4 hu4
  go_wp2
  go_ret
  rw[HT.out]
  have t1:Turn (r::ownL T.L) w w3:=(Turn.of_below (X:=r::ownL T.L) HB.out).trans HT3.out (fun y hy=> .inl (by simp at hy;subst hy;have:=HUO.out;simp[this]))
  have hdo:∀ b,b∈ownL (dropT (splitL p) T.L)→b∈ownL T.L:=fun b hb=>(own_sub List.filter_sublist).mem hb
  have hdx:∀ b,b∈xobL (dropT (splitL p) T.L)→b∈xobL T.L:=fun b hb=>xob_sub List.filter_sublist hb
  refine⟨by rw[HCC.out];rfl,HT4.out,t1.trans HU4.out (fun y hy=> .inl ?_),fun b hb=> .inl ?_,?_⟩
  · rw[List.mem_cons] at hy ⊢
    rcases hy with hy|hy
    · exact .inl hy
    · exact .inr (hdo y hy)
  · rw[List.mem_append] at hb ⊢
    rcases hb with hb|hb
    · have hb:b∈ownL (tickT [u.p] _ (dropT (splitL p) T.L)):=hb
      rw[own_tickT] at hb
      exact .inl (hdo b hb)
    · obtain⟨x',hx',hb⟩:=List.mem_flatMap.1 hb
      obtain⟨x,hx,rfl|rfl⟩:=tickT_mem hx'
      · exact .inr (hdx b (List.mem_flatMap.2 ⟨_,hx,hb⟩))
      · exact .inr (hdx b (List.mem_flatMap.2 ⟨_,hx,hb⟩))
  · rw[←HNN.out]
    exact .del n u HN.out (by rw[HNN.out];exact HL0.out) HUM.out (by rw[HNN.out];exact HUN.out) HCL.out
end Go.Proofs.YtnmejonfdfdegaaGreatDoor.Sr
