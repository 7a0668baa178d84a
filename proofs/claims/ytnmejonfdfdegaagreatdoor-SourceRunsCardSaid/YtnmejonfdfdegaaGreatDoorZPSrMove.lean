import Derived.Test.YtnmejonfdfdegaaGreatDoorZPZz
import Derived.Test.YtnmejonfdfdegaaGreatDoorZPSrNew
import Derived.Test.YtnmejonfdfdegaaGreatDoorZPSrAlike
import Derived.Test.YtnmejonfdfdegaaGreatDoorZPSrStat
import Derived.LaidEqlPtr
import Derived.Lib.Builder
set_option linter.unusedSimpArgs false
set_option linter.unusedVariables false
set_option maxHeartbeats 16000000
set_option maxRecDepth 100000
namespace Go.Proofs.YtnmejonfdfdegaaGreatDoor.Sr
open Go.RowKit Go.Maps Go.WideMaps Rf Go.Proofs.YtnmejonfdfdegaaGreatDoor.Nm St
open Lib (hid)
def moveE (p q:List UInt8) (T:Tr):Int:=
 if splitE p≠0 then 10 else if splitE q≠0 then 10 else match getT (splitL p) T.L with
  |none=>6
  |some _=>
   if splitL p=[]∨((splitL p).length < (splitL q).length∧splitL p=(splitL q).take (splitL p).length) then 1
   else if (getT (splitL q) T.L).isSome then 7
   else if abvE (splitL q) T.L≠0 then abvE (splitL q) T.L
   else if 16 < (splitL q).length+deepN T.L (splitL p) then 10
   else if ((splitL q).dropLast≠(splitL p).dropLast∧256≤(kidsT T.L (splitL q).dropLast).length)∨1099511627776≤T.clock then 3 else 0
def moveTr (p q:List UInt8) (T:Tr):Tr:=
 if moveE p q T=0 then match getT (splitL p).dropLast T.L,getT (splitL q).dropLast T.L with
  |some u,some d=>{T with clock:=T.clock+1,L:=tickT [u.p,d.p] ((T.clock+1:Nat):Int) (moveT (splitL p) (splitL q) T.L)}
  |_,_=>T
 else T
theorem moveTr_no {p q:List UInt8} {T:Tr} (h:moveE p q T≠0):moveTr p q T=T:=if_neg h
theorem own_move (a b:PN) (L:List TE):(ownL (moveT a b L)).Perm (ownL L):=by
 have h1:(ownL (moveT a b L)).Perm (ownL (L.map (renE (renP a b)))):=(sortT_perm _).flatMap_right ownE
 have h2:ownL (L.map (renE (renP a b)))=ownL L:=by rw[ownL,List.flatMap_map];rfl
 rw[h2] at h1;exact h1
theorem move_end {B:Nat} {w w4 w5 w6 w8:World} {r ub db:Nat} {T:Tr} {p q:List UInt8} {n u d:TE} {sa sb:List UInt8} (h4:Below w.heap.size w w4) (h5:Turn [ub] w4 w5) (h6:Turn [db] w5 w6) (hub:ub∈ownL T.L) (hdb:db∈ownL T.L)
 (ht:TreeAt B w8 r {T with clock:=T.clock+1,L:=tickT [u.p,d.p] ((T.clock+1:Nat):Int) (moveT (splitL p) (splitL q) T.L)}) (h8:Turn (r::ownL (moveT (splitL p) (splitL q) T.L)) w6 w8) (mk:MoveOk u.nm d.nm sa sb T.L n d) (hu:u∈T.L) (hc:T.clock < 1099511627776)
 (hp:splitL p=u.nm++[sa]) (hq:splitL q=d.nm++[sb]) (h16:(splitL q).length+deepN T.L (splitL p)≤16):
 CallPost B w r T 0 {T with clock:=T.clock+1,L:=tickT [u.p,d.p] ((T.clock+1:Nat):Int) (moveT (splitL p) (splitL q) T.L)} (.returned (.int .i64 0)) w8:=by
 have t1:Turn (r::ownL T.L) w w5:=(Turn.of_below (X:=r::ownL T.L) h4).trans h5 (fun y hy=> .inl (by simp at hy;subst hy;simp[hub]))
 have t2:Turn (r::ownL T.L) w w6:=t1.trans h6 (fun y hy=> .inl (by simp at hy;subst hy;simp[hdb]))
 have hdo:∀ b,b∈ownL (moveT (splitL p) (splitL q) T.L)→b∈ownL T.L:=fun b hb=>(own_move _ _ _).mem_iff.1 hb
 refine⟨rfl,ht,t2.trans h8 (fun y hy=> .inl ?_),fun b hb=> .inl ?_,?_⟩
 · rw[List.mem_cons] at hy ⊢
   rcases hy with hy|hy
   · exact .inl hy
   · exact .inr (hdo y hy)
 · rw[List.mem_append] at hb ⊢
   rcases hb with hb|hb
   · have hb:b∈ownL (tickT [u.p,d.p] _ (moveT (splitL p) (splitL q) T.L)):=hb
     rw[own_tickT] at hb
     exact .inl (hdo b hb)
   · obtain⟨x',hx',hb⟩:=List.mem_flatMap.1 hb
     have:∃ x∈moveT (splitL p) (splitL q) T.L,b∈xob x.at_.xs x.xv:=by
      obtain⟨x,hx,rfl|rfl⟩:=tickT_mem hx'
      · exact⟨_,hx,hb⟩
      · exact⟨x,hx,hb⟩
     obtain⟨x,hx,hb⟩:=this
     obtain⟨y,hy,rfl⟩:=moveT_mem.1 hx
     exact .inr (List.mem_flatMap.2 ⟨y,hy,hb⟩)
 · rw[hp,hq] at h16 ⊢
   exact .move u.nm d.nm sa sb n u d mk hu rfl hc h16 (fun s hs=>splitL_chk (p:=q) (by rw[hq];exact hs))
theorem strs_inj {a b:PN} (h:(a.map fun x=>(⟨x.toArray⟩:ByteArray))=b.map fun x=>(⟨x.toArray⟩:ByteArray)):a=b:=
 (List.map_inj_right (fun x y e=>by injection e with e;injection e with e)).1 h
theorem sizeNd:(Tryz.prog.info? NdT).map (·.size)=some 11:=by kernel_rfl
theorem neq_same (w:World) {a b:Nat} (h:a=b):(binOp .neq 74 (ptr a) (ptr b)).run Tryz.prog w= .ok (.bool false) w:=by
 subst h
 have hs:=sizeNd
 cases hj:Tryz.prog.info? NdT with
 |none=>rw [hj] at hs;cases hs
 |some j=>exact Lib.run_neq_ptr_same w _ Tryz.underlying74 hj
theorem neq_other (w:World) {a b:Nat} (h:a≠b) {ca cb:Array Value} {ta tb:TypeId} (ha:w.heap[a]? =some (.cells ca ta)) (hb:w.heap[b]? =some (.cells cb tb)):(binOp .neq 74 (ptr a) (ptr b)).run Tryz.prog w= .ok (.bool true) w:=by
 have hs:=sizeNd
 cases hj:Tryz.prog.info? NdT with
 |none=>rw [hj] at hs;cases hs
 |some j=>
  rw[hj] at hs
  have hs2:j.size=11:=by injection hs
  have hsz:j.size≠0:=by rw[hs2];decide
  have hne:(⟨a,0,none⟩:Addr)≠⟨b,0,none⟩:=fun e=>h (by injection e)
  have hk:∀ d:Nat,(Op.equalIn (d+1) 74 (ptr a) (ptr b)).run Tryz.prog w= .ok false w:=fun d=>by
   simp[ptr,Op.equalIn,run_underlying Tryz.underlying74,sizeOf,typeInfo,hj,hsz,run_sameAddr_other w hne ha hb]
  simp only[binOp]
  simp[Op.equal,Op.maxDepth,hk 9999]
theorem below_drewN {n:Nat} {w w':World} (h:Below n w w') (q:Nat):Below n w (w'.drewN q):=⟨h.os,h.tape,h.output,h.size,h.block⟩
theorem path_cap {B:Nat} {w:World} {a:Option Addr} {n c:Nat} {l:PN} (h:PathAt B w (.slice a n c) l):c≤maxLen:=by
 rcases h.row with⟨_,⟨h1,_⟩|⟨g',cap',cur,hv',_,_,h1,h2,_⟩⟩
 · injection h1 with _ _ e3;rw[e3];exact Nat.zero_le _
 · injection hv' with e1 e2 e3;rw[e3];exact h2
theorem move_any (B:Nat) (w:World) (r:Nat) (T:Tr) (p q:List UInt8) (hp:p.length≤4611686018427387904) (hq:q.length≤4611686018427387904) (hM:∀ e∈T.L,e.nm.length≤16) (hL:T.L.length≤500000) (h:TreeAt B w r T):
 Calls Tryz.prog 26 #[ptr r,.string ⟨p.toArray⟩,.string ⟨q.toArray⟩] w (CallPost B w r T (moveE p q T) (moveTr p q T)):=by
 have FI:=hid (find_any B w r T p hp h)
 have H:=hid h;have HM:=hid hM;have HLL:=hid hL;have HQL:=hid hq
 clear h hM hL
 unfold ptr at*
 go_enter Tryz.func26,Tryz.ntmps26
 go_wp2_with fail
 refine FI.out.mono ?_
 rintro ex w1 ⟨v,rfl,hp1,hb1⟩
 have HA1:=hid hp1;have HB1:=hid hb1
 obtain⟨va,vac,rfl⟩:=rowS_slice hp1.row
 have HCA:Hid (vac≤maxLen):=hid (path_cap hp1)
 have HW1:Hid (w.heap.size≤w1.heap.size):=hid hb1.size
 clear FI hp1 hb1
 rw[findE,findN]
 rcases splitE_cases p with h0|⟨h0,_⟩
 case inr=>
  have hc:moveE p q T=10:=by rw[moveE,if_pos (by rw[h0];decide)]
  have HT:Hid (moveTr p q T=T):=hid (moveTr_no (by rw[hc];decide))
  have HCC:=hid hc
  rw[if_neg (by rw[h0];decide),if_neg (by rw[h0];decide)]
  unfold ptrO
  clear h0 hc
  go_wp2
  go_ret
  exact callPost_no H.out HT.out HCC.out rfl HB1.out
 rw[if_pos h0,if_pos h0]
 have FI2:=hid (find_any B w1 r T q hq (H.out.below HB1.out))
 have HE1:Hid (moveE p q T=if splitE q≠0 then 10 else match getT (splitL p) T.L with
  |none=>6
  |some _=>
   if splitL p=[]∨((splitL p).length < (splitL q).length∧splitL p=(splitL q).take (splitL p).length) then 1
   else if (getT (splitL q) T.L).isSome then 7
   else if abvE (splitL q) T.L≠0 then abvE (splitL q) T.L
   else if 16 < (splitL q).length+deepN T.L (splitL p) then 10
   else if ((splitL q).dropLast≠(splitL p).dropLast∧256≤(kidsT T.L (splitL q).dropLast).length)∨1099511627776≤T.clock then 3 else 0):=hid (by rw[moveE,if_neg (by rw[h0];decide)])
 clear h0
 cases hg:getT (splitL p) T.L with
 |none=>
  have HG:=hid hg
  unfold ptrO
  clear hg
  go_wp2_with fail
  refine FI2.out.mono ?_
  rintro ex w2 ⟨v,rfl,hp2,hb2⟩
  have HA2:=hid (HA1.out.below hb2);have HQ2:=hid hp2
  have HB2:=hid (HB1.out.trans (hb2.mono HB1.out.size))
  obtain⟨vb,vbc,rfl⟩:=rowS_slice hp2.row
  have HCB2:Hid (vbc≤maxLen):=hid (path_cap hp2)
  clear FI2 hp2 hb2
  rw[findE,findN]
  rcases splitE_cases q with h1|⟨h1,_⟩
  case inr=>
   rw[if_neg (by rw[h1];decide),if_neg (by rw[h1];decide)]
   unfold ptrO
   have hc:moveE p q T=10:=by rw[HE1.out,if_pos (by rw[h1];decide)]
   have HT:Hid (moveTr p q T=T):=hid (moveTr_no (by rw[hc];decide))
   have HCC:=hid hc
   clear hc h1
   go_wp2
   go_ret
   exact callPost_no H.out HT.out HCC.out rfl HB2.out
  rw[if_pos h1,if_pos h1]
  have hc:moveE p q T=6:=by rw[HE1.out,if_neg (by rw[h1];decide),HG.out]
  have HT:Hid (moveTr p q T=T):=hid (moveTr_no (by rw[hc];decide))
  have HCC:=hid hc
  clear hc h1
  cases hgb:getT (splitL q) T.L with
  |none=>
   unfold ptrO
   go_wp2
   go_ret
   exact callPost_no H.out HT.out HCC.out rfl HB2.out
  |some x=>
   unfold ptrO
   go_wp2
   go_ret
   exact callPost_no H.out HT.out HCC.out rfl HB2.out
 |some n=>
  have HG:=hid hg
  obtain⟨hn,hnn⟩:=getT_nm hg
  have HN:=hid hn;have HNN:=hid hnn
  clear hg hn hnn
  unfold ptrO
  go_wp2_with fail
  refine FI2.out.mono ?_
  rintro ex w2 ⟨v,rfl,hp2,hb2⟩
  have HA2:=hid (HA1.out.below hb2);have HQ2:=hid hp2
  have HB2:=hid (HB1.out.trans (hb2.mono HB1.out.size))
  obtain⟨vb,vbc,rfl⟩:=rowS_slice hp2.row
  have HCB2:Hid (vbc≤maxLen):=hid (path_cap hp2)
  clear FI2 hp2 hb2
  rw[findE,findN]
  rcases splitE_cases q with h1|⟨h1,_⟩
  case inr=>
   rw[if_neg (by rw[h1];decide),if_neg (by rw[h1];decide)]
   unfold ptrO
   have hc:moveE p q T=10:=by rw[HE1.out,if_pos (by rw[h1];decide)]
   have HT:Hid (moveTr p q T=T):=hid (moveTr_no (by rw[hc];decide))
   have HCC:=hid hc
   clear hc h1
   go_wp2
   go_ret
   exact callPost_no H.out HT.out HCC.out rfl HB2.out
  rw[if_pos h1,if_pos h1]
  have HE2:Hid (moveE p q T= 
        if splitL p=[]∨((splitL p).length < (splitL q).length∧splitL p=(splitL q).take (splitL p).length) then 1
        else if (getT (splitL q) T.L).isSome then 7
        else if abvE (splitL q) T.L≠0 then abvE (splitL q) T.L
        else if 16 < (splitL q).length+deepN T.L (splitL p) then 10
        else if ((splitL q).dropLast≠(splitL p).dropLast∧256≤(kidsT T.L (splitL q).dropLast).length)∨1099511627776≤T.clock then 3 else 0):=hid (by rw[HE1.out,if_neg (by rw[h1];decide),HG.out])
  clear h1
  by_cases hl0:splitL p=[]
  · have hc:moveE p q T=1:=by rw[HE2.out,if_pos (.inl hl0)]
    have HT:Hid (moveTr p q T=T):=hid (moveTr_no (by rw[hc];decide))
    have HCC:=hid hc
    have hz:(splitL p).length=0:=by rw[hl0];rfl
    clear hc hl0
    rw[hz]
    cases hgb:getT (splitL q) T.L with
    |none=>
     unfold ptrO
     go_wp2
     go_ret
     exact callPost_no H.out HT.out HCC.out rfl HB2.out
    |some x=>
     unfold ptrO
     go_wp2
     go_ret
     exact callPost_no H.out HT.out HCC.out rfl HB2.out
  have hlp:0 < (splitL p).length:=List.length_pos_iff.2 hl0
  have hlz:(((splitL p).length:Int)==0)=false:=by rw[beq_eq_false_iff_ne];omega
  have HL0:=hid hl0
  have hlma:=splitL_short p
  have hlmb:=splitL_short q
  by_cases hlt:(splitL p).length < (splitL q).length
  · have hlti:((splitL p).length:Int) < ((splitL q).length:Int):=by omega
    obtain⟨ga,vac',hvea,hga,hgaw,hgac,hrowa⟩:=rowS_form HA2.out.row (by omega)
    obtain⟨rfl,rfl⟩:va=some ⟨ga,0,none⟩∧vac=vac':=by injection hvea with e1 _ e3;exact⟨e1,e3⟩
    obtain⟨gb,vbc',hveb,hgb,hgbw,hgbc,hrowb⟩:=rowS_form HQ2.out.row (by omega)
    obtain⟨rfl,rfl⟩:vb=some ⟨gb,0,none⟩∧vbc=vbc':=by injection hveb with e1 _ e3;exact⟨e1,e3⟩
    have hcap:((splitL p).length:Int)≤(vbc:Int):=by omega
    have hnn0:(0:Int)≤((splitL p).length:Int):=by omega
    have EQ:=Tryz.slices_Equal_string ga 0 (splitL p).length vac gb 0 (splitL p).length vbc ((splitL p).map fun x=>(⟨x.toArray⟩:ByteArray)) (((splitL q).take (splitL p).length).map fun x=>(⟨x.toArray⟩:ByteArray)) w2 (by simp) (by simp;omega) (by omega) (by omega)
     (fun j hj=>by
       rw[List.length_map] at hj
       rw[Nat.zero_add]
       have hx:(splitL p)[j]? =some (splitL p)[j]:=List.getElem?_eq_getElem hj
       have:=hrowa j _ (by rw[List.getElem?_map,hx];rfl)
       rw[this]
       simp[List.getD_eq_getElem?_getD,hx,sv])
     (fun j hj=>by
       rw[List.length_map,List.length_take] at hj
       have hj1:j < (splitL q).length:=by omega
       rw[Nat.zero_add]
       have hx:(splitL q)[j]? =some (splitL q)[j]:=List.getElem?_eq_getElem hj1
       have:=hrowb j _ (by rw[List.getElem?_map,hx];rfl)
       rw[this]
       have hj2:j < (splitL p).length:=by omega
       simp[List.getD_eq_getElem?_getD,List.getElem?_take,hj2,hx,sv])
    rw[List.take_of_length_le (by simp),List.take_of_length_le (by simp;omega)] at EQ
    have EQ:=hid EQ
    clear hvea hga hgaw hgac hrowa hveb hgb hgbw hrowb
    by_cases heq:splitL p=(splitL q).take (splitL p).length
    · have hc:moveE p q T=1:=by rw[HE2.out,if_pos (.inr ⟨hlt,heq⟩)]
      have HT:Hid (moveTr p q T=T):=hid (moveTr_no (by rw[hc];decide))
      have hd:decide (((splitL p).map fun x=>(⟨x.toArray⟩:ByteArray))=((splitL q).take (splitL p).length).map fun x=>(⟨x.toArray⟩:ByteArray))=true:=decide_eq_true (congrArg _ heq)
      have EQ2:=EQ.out
      rw[hd] at EQ2
      have EQ2:=hid EQ2
      have HCC:=hid hc
      clear hc heq hd EQ
      cases hgb:getT (splitL q) T.L with
      |none=>
       unfold ptrO
       go_wp2_with fail
       refine EQ2.out.mono ?_
       rintro ex w3 ⟨rfl,qn,hw3⟩
       have HB3:Hid (Below w.heap.size w w3):=hid (by rw[hw3];exact below_drewN HB2.out qn)
       clear hw3
       go_wp2
       go_ret
       exact callPost_no H.out HT.out HCC.out rfl HB3.out
      |some x=>
       unfold ptrO
       go_wp2_with fail
       refine EQ2.out.mono ?_
       rintro ex w3 ⟨rfl,qn,hw3⟩
       have HB3:Hid (Below w.heap.size w w3):=hid (by rw[hw3];exact below_drewN HB2.out qn)
       clear hw3
       go_wp2
       go_ret
       exact callPost_no H.out HT.out HCC.out rfl HB3.out
    have HE3:Hid (moveE p q T=if (getT (splitL q) T.L).isSome then 7
     else if abvE (splitL q) T.L≠0 then abvE (splitL q) T.L
     else if 16 < (splitL q).length+deepN T.L (splitL p) then 10
     else if ((splitL q).dropLast≠(splitL p).dropLast∧256≤(kidsT T.L (splitL q).dropLast).length)∨1099511627776≤T.clock then 3 else 0):=hid (by rw[HE2.out,if_neg (fun h=>h.elim hl0 (fun h=>heq h.2))])
    have HOFF0:Hid (∀ t,t≠[]→splitL q≠splitL p++t):=hid (fun t _ ht=>heq (by rw[ht,List.take_left]))
    have hd:decide (((splitL p).map fun x=>(⟨x.toArray⟩:ByteArray))=((splitL q).take (splitL p).length).map fun x=>(⟨x.toArray⟩:ByteArray))=false:=decide_eq_false (fun h=>heq (strs_inj h))
    have EQ2:=EQ.out
    rw[hd] at EQ2
    have EQ2:=hid EQ2
    clear heq hd EQ
    clear hl0 hlt
    cases hgb:getT (splitL q) T.L with
    |some x=>
     unfold ptrO
     go_wp2_with fail
     refine EQ2.out.mono ?_
     rintro ex W ⟨rfl,qn,hW⟩
     have hbW:Below w2.heap.size w2 W:=by rw[hW];exact below_drewN (Below.refl _ _) qn
     clear hW EQ2
     generalize (some (⟨ga,0,none⟩:Addr))=va at*
     generalize (some (⟨gb,0,none⟩:Addr))=vb at*
     have hc:moveE p q T=7:=by rw[HE3.out,hgb];rfl
     have HT:Hid (moveTr p q T=T):=hid (moveTr_no (by rw[hc];decide))
     have HCC:=hid hc
     have HB3:Hid (Below w.heap.size w W):=hid (HB2.out.trans (hbW.mono HB2.out.size))
     clear hc
     go_wp2
     go_ret
     exact callPost_no H.out HT.out HCC.out rfl HB3.out
    |none=>
     unfold ptrO
     have HE4:Hid (moveE p q T=if abvE (splitL q) T.L≠0 then abvE (splitL q) T.L
      else if 16 < (splitL q).length+deepN T.L (splitL p) then 10
      else if ((splitL q).dropLast≠(splitL p).dropLast∧256≤(kidsT T.L (splitL q).dropLast).length)∨1099511627776≤T.clock then 3 else 0):=hid (by rw[HE3.out,hgb];rfl)
     have HGB0:=hid hgb
     have HNB:Hid (splitL q≠[]):=hid (H.out.root_path hgb)
     have HOFF:Hid (¬ splitL p <+:splitL q):=hid (by
      rintro ⟨t,ht⟩
      by_cases h:t=[]
      · subst h
        rw[List.append_nil] at ht
        rw[←ht,HG.out] at hgb;cases hgb
      · exact HOFF0.out t h ht.symm)
     clear hgb
     go_wp2_with fail
     refine EQ2.out.mono ?_
     rintro ex W ⟨rfl,qn,hW⟩
     have hbW:Below w2.heap.size w2 W:=by rw[hW];exact below_drewN (Below.refl _ _) qn
     clear hW EQ2
     generalize (some (⟨ga,0,none⟩:Addr))=va at*
     generalize (some (⟨gb,0,none⟩:Addr))=vb at*
     have HBW:Hid (Below w.heap.size w W):=hid (HB2.out.trans (hbW.mono HB2.out.size))
     have HAW:=hid (HA2.out.below hbW);have HQW:=hid (HQ2.out.below hbW)
     have HWS:=hid hbW.size
     clear hbW
     have H3:=hid (H.out.below HBW.out)
     have AB:=above_any B w1.heap.size W r T _ (splitL q) HNB.out (splitL_short q) HQW.out H3.out
     have HE5:Hid (moveE p q T=if abvE (splitL q) T.L≠0 then abvE (splitL q) T.L else if 16 < (splitL q).length+deepN T.L (splitL p) then 10
      else if ((splitL q).dropLast≠(splitL p).dropLast∧256≤(kidsT T.L (splitL q).dropLast).length)∨1099511627776≤T.clock then 3 else 0):=HE4
     by_cases hab:abvE (splitL q) T.L=0
     case neg=>
      have hc:moveE p q T=abvE (splitL q) T.L:=by rw[HE5.out,if_pos hab]
      have HT:Hid (moveTr p q T=T):=hid (moveTr_no (by rw[hc];exact hab))
      have HCB:=hid hc
      have h611:abvE (splitL q) T.L=6∨abvE (splitL q) T.L=11:=by
       unfold abvE at hab ⊢
       split
       · exact .inl rfl
       · next d hd=>
         split
         · next h2=>rw [hd] at hab;exact absurd (if_pos h2) hab
         · exact .inr rfl
      have HNN:Hid (abvN (splitL q) T.L=none):=hid (by
       unfold abvE at hab
       rw[abvN]
       cases hd:getT (splitL q).dropLast T.L with
       |none=>rfl
       |some d=>
        rw[hd] at hab
        dsimp only at hab ⊢
        split
        · next h2=>exact absurd (if_pos h2) hab
        · rfl)
      rw[HNN.out] at AB
      clear hab hc
      rcases h611 with h6|h6
      · rw[h6] at AB
        have HCC:=hid (HCB.out.trans h6)
        unfold ptr ptrO at AB
        have AB:=hid AB
        clear h6
        go_wp2_with fail
        refine AB.out.mono ?_
        rintro ex w3 ⟨rfl,hw3⟩
        obtain rfl:W=w3:=hw3.symm
        go_wp2
        go_ret
        exact callPost_no H.out HT.out HCC.out rfl HBW.out
      · rw[h6] at AB
        have HCC:=hid (HCB.out.trans h6)
        unfold ptr ptrO at AB
        have AB:=hid AB
        clear h6
        go_wp2_with fail
        refine AB.out.mono ?_
        rintro ex w3 ⟨rfl,hw3⟩
        obtain rfl:W=w3:=hw3.symm
        go_wp2
        go_ret
        exact callPost_no H.out HT.out HCC.out rfl HBW.out
     have HE6:Hid (moveE p q T=if 16 < (splitL q).length+deepN T.L (splitL p) then 10
      else if ((splitL q).dropLast≠(splitL p).dropLast∧256≤(kidsT T.L (splitL q).dropLast).length)∨1099511627776≤T.clock then 3 else 0):=hid (by rw[HE5.out,if_neg (by simpa using hab)])
     obtain⟨d,hgd,hd2⟩:∃ d,getT (splitL q).dropLast T.L=some d∧d.at_.node=2:=by
      unfold abvE at hab
      cases hd:getT (splitL q).dropLast T.L with
      |none=>rw [hd] at hab;cases hab
      |some d=>
       rw[hd] at hab
       dsimp only at hab
       by_cases h2:d.at_.node=2
       · exact⟨d,rfl,h2⟩
       · rw[if_neg h2] at hab;cases hab
     obtain⟨hdm,hdn⟩:=getT_nm hgd
     have hdmm:d.m≠none:=(H.out.kind d hdm).1 hd2
     obtain⟨db,hdb⟩:=Option.ne_none_iff_exists'.1 hdmm
     obtain⟨u,ub,sa,hu,hnu,hun,hub,hgu,hu2⟩:=H.out.up HN.out (by rw[HNN.out];exact HL0.out)
     rw[HNN.out] at hnu hun hgu
     have HAN:Hid (abvN (splitL q) T.L=some d):=hid (by rw[abvN,hgd];simp[hd2])
     have HAE2:Hid (abvE (splitL p) T.L=0):=hid (by rw[abvE,hgu];simp[hu2])
     have HAN2:Hid (abvN (splitL p) T.L=some u):=hid (by rw[abvN,hgu];simp[hu2])
     have AB2:=above_any B w.heap.size W r T _ (splitL p) HL0.out (splitL_short p) HAW.out H3.out
     rw[HAE2.out,HAN2.out] at AB2
     rw[hab,HAN.out] at AB
     unfold ptr ptrO at AB AB2
     have AB:=hid AB;have AB2:=hid AB2
     have DP:=deep_any B r T (fun e he=>Nat.le_trans (HM.out e he) (by decide)) 1000 n HN.out (by omega) W H3.out
     rw[HNN.out] at DP
     unfold ptr at DP
     have DP:=hid DP
     have HDM:=hid hdm;have HDN:=hid hdn;have HDB:=hid hdb;have HUM:=hid hu;have HNU:=hid hnu;have HUN:=hid hun;have HUB:=hid hub;have HGU:=hid hgu;have HGD:=hid hgd;have HDMM:=hid hdmm
     have HKB:Hid ((kidsT T.L d.nm).length≤500000):=hid (Nat.le_trans (kids_le _ _) HLL.out)
     have hdpl:deepN T.L (splitL p)≤16:=deepN_bound HM.out
     have hbl:=splitL_short q
     have hwd:IntKind.i64.wrap (((splitL q).length:Int)+(deepN T.L (splitL p):Int))=((splitL q).length:Int)+(deepN T.L (splitL p):Int):=by rw[IntKind.wrap_i64];omega
     clear hab hgd hd2 hdm hdn hdmm hdb hu hnu hun hub hgu hu2
     by_cases h16:16 < (splitL q).length+deepN T.L (splitL p)
     · have hc:moveE p q T=10:=by rw[HE6.out,if_pos h16]
       have HT:Hid (moveTr p q T=T):=hid (moveTr_no (by rw[hc];decide))
       have HCC:=hid hc
       have h16i:(16:Int) < ((splitL q).length:Int)+(deepN T.L (splitL p):Int):=by omega
       clear hc h16
       go_wp2_with fail
       refine AB.out.mono ?_
       rintro ex w3 ⟨rfl,hw3⟩
       obtain rfl:W=w3:=hw3.symm
       go_wp2_with fail
       refine AB2.out.mono ?_
       rintro ex w3 ⟨rfl,hw3⟩
       obtain rfl:W=w3:=hw3.symm
       go_wp2_with fail
       refine DP.out.mono ?_
       rintro ex w4 ⟨rfl,hb4⟩
       have HB4:=hid (HBW.out.trans (hb4.mono HBW.out.size))
       clear hb4
       go_wp2
       go_ret
       exact callPost_no H.out HT.out HCC.out rfl HB4.out
     have HE7:Hid (moveE p q T=if ((splitL q).dropLast≠(splitL p).dropLast∧256≤(kidsT T.L (splitL q).dropLast).length)∨1099511627776≤T.clock then 3 else 0):=hid (by rw[HE6.out,if_neg h16])
     have h16i:¬ (16:Int) < ((splitL q).length:Int)+(deepN T.L (splitL p):Int):=by omega
     have H16:=hid h16
     clear h16
     go_wp2_with fail
     refine AB.out.mono ?_
     rintro ex w3 ⟨rfl,hw3⟩
     obtain rfl:W=w3:=hw3.symm
     go_wp2_with fail
     refine AB2.out.mono ?_
     rintro ex w3 ⟨rfl,hw3⟩
     obtain rfl:W=w3:=hw3.symm
     go_wp2_with fail
     refine DP.out.mono ?_
     rintro ex w4 ⟨rfl,hb4⟩
     have HB4:=hid (HBW.out.trans (hb4.mono HBW.out.size))
     have HA4:=hid (HAW.out.below hb4);have HQ4:=hid (HQW.out.below hb4)
     have HWS4:=hid (Nat.le_trans HWS.out hb4.size)
     clear hb4 AB AB2 DP hdpl
     have H4:=hid (H.out.below HB4.out)
     have HPP:Hid (d.p=u.p ↔ (splitL q).dropLast=(splitL p).dropLast):=hid (by
      rw[←HDN.out,←HUN.out]
      exact⟨fun h=>by rw[H.out.p_inj HDM.out HUM.out h],fun h=>by rw[srtT_inj H.out.srt HDM.out HUM.out h]⟩)
     have ST:=still_any B w4 r T H4.out
     unfold ptr at ST
     have cdm:w4.cell? ⟨d.p,10,none⟩=some (mapV d.m):=cell_of_heap (H4.out.node d HDM.out).cells
     rw[HDB.out] at cdm
     unfold mapV at cdm
     have hlen:=((H4.out.node d HDM.out).kids db HDB.out).len Tryz.underlying80
     simp only[toD_size] at hlen
     have HFULL:Hid (∀ c:Bool,c=decide (1099511627776≤T.clock)→(d.p=u.p∨¬ 256≤(kidsT T.L d.nm).length)→moveE p q T=if c then 3 else 0):=hid (fun c hc hor=>by
      rw[HE7.out]
      have:¬ ((splitL q).dropLast≠(splitL p).dropLast∧256≤(kidsT T.L (splitL q).dropLast).length):=by
       rintro ⟨h1,h2⟩
       rcases hor with h3|h3
       · exact h1 (HPP.out.1 h3)
       · rw[HDN.out] at h3;exact h3 h2
      by_cases h4:1099511627776≤T.clock
      · rw[if_pos (.inr h4),hc,decide_eq_true h4];rfl
      · rw[if_neg (fun h=>h.elim this h4),hc,decide_eq_false h4];rfl)
     by_cases hfull:d.p≠u.p∧256≤(kidsT T.L d.nm).length
     · have hc:moveE p q T=3:=by
        rw[HE7.out,if_pos (.inl ⟨fun h=>hfull.1 (HPP.out.2 h),by rw[←HDN.out];exact hfull.2⟩)]
       have HT:Hid (moveTr p q T=T):=hid (moveTr_no (by rw[hc];decide))
       have HCC:=hid hc
       obtain⟨hne,h256⟩:=hfull
       have hnq:=neq_other w4 hne (H4.out.node d HDM.out).cells (H4.out.node u HUM.out).cells
       unfold ptr at hnq
       have h256i:(256:Int)≤((kidsT T.L d.nm).length:Int):=by omega
       clear hc h256
       go_wp2
       go_ret
       exact callPost_no H.out HT.out HCC.out rfl HB4.out
     have HOR:Hid (d.p=u.p∨¬ 256≤(kidsT T.L d.nm).length):=hid (by
      by_cases h1:d.p=u.p
      · exact .inl h1
      · exact .inr (fun h2=>hfull ⟨h1,h2⟩))
     clear hfull
     by_cases hst:1099511627776≤T.clock
     · have hc:moveE p q T=3:=by rw[HFULL.out true (decide_eq_true hst).symm HOR.out];rfl
       have HT:Hid (moveTr p q T=T):=hid (moveTr_no (by rw[hc];decide))
       have HCC:=hid hc
       rw[decide_eq_true hst] at ST
       have ST:=hid ST
       clear hc hst
       by_cases hpp:d.p=u.p
       · have hnq:=neq_same w4 hpp
         unfold ptr at hnq
         clear hpp
         go_wp2_with fail
         refine ST.out.mono ?_
         rintro ex w5 ⟨rfl,hw5⟩
         obtain rfl:w4=w5:=hw5.symm
         go_wp2
         go_ret
         exact callPost_no H.out HT.out HCC.out rfl HB4.out
       · have h256i:¬ (256:Int)≤((kidsT T.L d.nm).length:Int):=by have:=HOR.out.resolve_left hpp;omega
         have hnq:=neq_other w4 hpp (H4.out.node d HDM.out).cells (H4.out.node u HUM.out).cells
         unfold ptr at hnq
         go_wp2_with fail
         refine ST.out.mono ?_
         rintro ex w5 ⟨rfl,hw5⟩
         obtain rfl:w4=w5:=hw5.symm
         go_wp2
         go_ret
         exact callPost_no H.out HT.out HCC.out rfl HB4.out
     have hc:moveE p q T=0:=by rw[HFULL.out false (decide_eq_false hst).symm HOR.out];rfl
     have HT:Hid (moveTr p q T={T with clock:=T.clock+1,L:=tickT [u.p,d.p] ((T.clock+1:Nat):Int) (moveT (splitL p) (splitL q) T.L)}):=hid (by rw[moveTr,if_pos hc,HGU.out,HGD.out])
     have HCC:=hid hc
     rw[decide_eq_false hst] at ST
     have ST:=hid ST
     have HCL:Hid (T.clock < 1099511627776):=hid (by omega)
     clear hc hst
     -- the names' last
     obtain⟨ga,vac',hvea,hga,hgaw,hgac,hrowa⟩:=rowS_form HA4.out.row (by have:=List.length_pos_iff.2 HL0.out;omega)
     obtain⟨rfl,rfl⟩:va=some ⟨ga,0,none⟩∧vac=vac':=by injection hvea with e1 _ e3;exact⟨e1,e3⟩
     obtain⟨gb,vbc',hveb,hgb,hgbw,hgbc,hrowb⟩:=rowS_form HQ4.out.row (by have:=List.length_pos_iff.2 HNB.out;omega)
     obtain⟨rfl,rfl⟩:vb=some ⟨gb,0,none⟩∧vbc=vbc':=by injection hveb with e1 _ e3;exact⟨e1,e3⟩
     obtain⟨sb,hqb⟩:∃ sb,splitL q=d.nm++[sb]:=⟨(splitL q).getLast HNB.out,by rw[HDN.out];exact(List.dropLast_concat_getLast HNB.out).symm⟩
     have HQB:=hid hqb
     have hlasta:(splitL p)[(splitL p).length - 1]? =some sa:=by rw[HNU.out,List.length_append];simp
     have hlastb:(splitL q)[(splitL q).length - 1]? =some sb:=by rw[hqb,List.length_append];simp
     have hcla:w4.cell? ⟨ga,(splitL p).length - 1,none⟩=some (.string ⟨sa.toArray⟩):=hrowa _ _ (by rw[List.getElem?_map,hlasta];rfl)
     have hclb:w4.cell? ⟨gb,(splitL q).length - 1,none⟩=some (.string ⟨sb.toArray⟩):=hrowb _ _ (by rw[List.getElem?_map,hlastb];rfl)
     have HSAL:Hid (sa.length≤maxLen):=hid (HA4.out.len sa (List.mem_of_getElem? hlasta))
     have HSBL:Hid (sb.length≤maxLen):=hid (HQ4.out.len sb (List.mem_of_getElem? hlastb))
     have hcu:w4.cell? ⟨u.p,10,none⟩=some (.map (some ub)):=by
      have:w4.cell? ⟨u.p,10,none⟩=some (mapV u.m):=cell_of_heap (H4.out.node u HUM.out).cells
      rw[HUB.out] at this;exact this
     have HUO:Hid (ub∈ownL T.L):=hid (ownL_mem2 HUM.out HUB.out)
     have HDO:Hid (db∈ownL T.L):=hid (ownL_mem2 HDM.out HDB.out)
     have HUW:Hid (ub < w.heap.size):=hid (H.out.lt ub (by simp[HUO.out]))
     have HDW:Hid (db < w.heap.size):=hid (H.out.lt db (by simp[HDO.out]))
     have HUP:Hid (∀ x∈T.L,x.p≠ub∧x.p≠db):=hid (fun x hx=>by
      have key:∀ (y:TE) (b:Nat),y∈T.L→y.m=some b→x.p≠b:=by
       intro y b hy hb he
       have hxy:x=y:=flat_inj H.out.own_nod hx hy (x:=x.p) (by simp[ownE]) (by simp[ownE,hb,he])
       subst hxy
       have hnd:=own_nodE H.out.own_nod hx
       rw[ownE,List.nodup_cons,hb] at hnd
       exact hnd.1 (by rw[he];simp)
      exact⟨key u ub HUM.out HUB.out,key d db HDM.out HDB.out⟩)
     have HWW:Hid (w.heap.size≤w1.heap.size):=HW1
     have HGA:=hid hgaw;have HGB:=hid hgbw
     -- the name goes out
     have hmapu:=((H4.out.below (Below.refl _ _).drew).node u HUM.out).kids ub HUB.out
     obtain⟨w5,hrun5,hmap5,ht5⟩:=kid_drop (w:=w4.drew) hmapu sa HSAL.out 0
     have HT5:Hid (Turn [ub] w4 w5):=hid ((Turn.of_below (Below.refl w4.heap.size w4).drew).trans ht5 (fun y hy=> .inl hy))
     have HSA:Hid (w4.drew.cell? ⟨u.p,10,none⟩=some (.map (some ub))∧w4.drew.cell? ⟨ga,(splitL p).length - 1,none⟩=some (.string ⟨sa.toArray⟩)):=hid ⟨hcu,hcla⟩
     have HSA2:Hid (w5.cell? ⟨u.p,10,none⟩=some (.map (some ub))∧w5.cell? ⟨ga,(splitL p).length - 1,none⟩=some (.string ⟨sa.toArray⟩)):=hid ⟨(World.cell?_of_block (a:=⟨u.p,10,none⟩) (HT5.out.block _ (H4.out.lt u.p (by have:=ownL_mem HUM.out;simp[this])) (by have:=(HUP.out u HUM.out).1;simpa using this))).trans hcu,(World.cell?_of_block (a:=⟨ga,(splitL p).length - 1,none⟩) (HT5.out.block _ hga (by have:=HUW.out;have:=HGA.out;simp;omega))).trans hcla⟩
     -- the name comes in
     have hcd5:w5.cell? ⟨d.p,10,none⟩=some (.map (some db)):=(World.cell?_of_block (a:=⟨d.p,10,none⟩) (HT5.out.block _ (H4.out.lt d.p (by have:=ownL_mem HDM.out;simp[this])) (by have:=(HUP.out d HDM.out).1;simpa using this))).trans cdm
     have hcb5:w5.cell? ⟨gb,(splitL q).length - 1,none⟩=some (.string ⟨sb.toArray⟩):=(World.cell?_of_block (a:=⟨gb,(splitL q).length - 1,none⟩) (HT5.out.block _ hgb (by have:=HUW.out;have:=HGB.out;have:=HWW.out;simp;omega))).trans hclb
     have hmapd:w5.drew.ownsMap Tryz.prog 9 Rv db 1000000 (toD ptr (if d.nm=u.nm then delM (kidsT T.L d.nm) sa else kidsT T.L d.nm)):=by
      by_cases hdu:d.nm=u.nm
      · have hdu2:d=u:=srtT_inj H.out.srt HDM.out HUM.out hdu
        obtain rfl:ub=db:=by have h1:=HUB.out;rw[←hdu2,HDB.out] at h1;exact(Option.some.inj h1).symm
        rw[if_pos hdu,hdu]
        exact ownsMap_block hmap5 rfl
      · rw[if_neg hdu]
        refine ownsMap_block ((H4.out.node d HDM.out).kids db HDB.out) (HT5.out.block _ (Nat.lt_of_lt_of_le HDW.out HB4.out.size) ?_)
        rw[List.mem_singleton]
        rintro rfl
        exact hdu (by rw[flat_inj H.out.own_nod HDM.out HUM.out (x:=db) (by simp[ownE,HDB.out]) (by simp[ownE,HUB.out])])
     have hputl:(putM (if d.nm=u.nm then delM (kidsT T.L d.nm) sa else kidsT T.L d.nm) sb n.p).length≤1000000:=by
      have h1:=(put_perm sb n.p (if d.nm=u.nm then delM (kidsT T.L d.nm) sa else kidsT T.L d.nm)).length_eq
      have h2:(delM (if d.nm=u.nm then delM (kidsT T.L d.nm) sa else kidsT T.L d.nm) sb).length≤(if d.nm=u.nm then delM (kidsT T.L d.nm) sa else kidsT T.L d.nm).length:=List.length_filter_le _ _
      have h3:(if d.nm=u.nm then delM (kidsT T.L d.nm) sa else kidsT T.L d.nm).length≤(kidsT T.L d.nm).length:=by
       split
       · exact List.length_filter_le _ _
       · exact Nat.le_refl _
      have:=HKB.out
      rw[h1,List.length_cons];omega
     obtain⟨w6,hrun6,hmap6,ht6⟩:=kid_store hmapd sb HSBL.out n.p hputl
     unfold ptr at hrun6
     have HT6:Hid (Turn [db] w5 w6):=hid ((Turn.of_below (Below.refl w5.heap.size w5).drew).trans ht6 (fun y hy=> .inl hy))
     have HSB:Hid (w5.drew.cell? ⟨d.p,10,none⟩=some (.map (some db))∧w5.drew.cell? ⟨gb,(splitL q).length - 1,none⟩=some (.string ⟨sb.toArray⟩)):=hid ⟨hcd5,hcb5⟩
     have HSB2:Hid (w6.cell? ⟨d.p,10,none⟩=some (.map (some db))∧w6.cell? ⟨gb,(splitL q).length - 1,none⟩=some (.string ⟨sb.toArray⟩)):=hid ⟨(World.cell?_of_block (a:=⟨d.p,10,none⟩) (HT6.out.block _ (Nat.lt_of_lt_of_le (H4.out.lt d.p (by have:=ownL_mem HDM.out;simp[this])) HT5.out.size) (by have:=(HUP.out d HDM.out).2;simpa using this))).trans hcd5,(World.cell?_of_block (a:=⟨gb,(splitL q).length - 1,none⟩) (HT6.out.block _ (Nat.lt_of_lt_of_le hgb HT5.out.size) (by have:=HDW.out;have:=HGB.out;have:=HWW.out;simp;omega))).trans hcb5⟩
     have HMK:Hid (MoveOk u.nm d.nm sa sb T.L n d):=hid ⟨HN.out,by rw[HNN.out];exact HNU.out,by rw[←hqb];exact HGB0.out,by rw[←HNU.out,←hqb];exact HOFF.out,HDM.out,rfl,HDMM.out⟩
     have HTI:Hid (TreeAt B w6 r {T with L:=moveT (splitL p) (splitL q) T.L}):=hid (by
      rw[HNU.out,hqb]
      refine H4.out.move HMK.out HUM.out rfl HUB.out HDB.out ?_ ?_ (fun b hb h1 h2=>(HT6.out.block b (Nat.lt_of_lt_of_le (H4.out.lt b hb) HT5.out.size) (by simpa using h2)).trans (HT5.out.block b (H4.out.lt b hb) (by simpa using h1))) (Nat.le_trans HT5.out.size HT6.out.size)
      · by_cases hdu:d.nm=u.nm
        · have hdu2:d=u:=srtT_inj H.out.srt HDM.out HUM.out hdu
          obtain rfl:ub=db:=by have h1:=HUB.out;rw[←hdu2,HDB.out] at h1;exact(Option.some.inj h1).symm
          rw[kidM,if_pos hdu.symm,if_pos rfl]
          rw[if_pos hdu,hdu] at hmap6
          exact hmap6
        · rw[kidM,if_neg (fun h=>hdu h.symm),if_pos rfl]
          refine ownsMap_block hmap5 (HT6.out.block _ (Nat.lt_of_lt_of_le HUW.out (Nat.le_trans HB4.out.size HT5.out.size)) ?_)
          rw[List.mem_singleton]
          rintro rfl
          exact hdu (by rw[flat_inj H.out.own_nod HDM.out HUM.out (x:=ub) (by simp[ownE,HDB.out]) (by simp[ownE,HUB.out])])
      · rw[kidM,if_pos rfl]
        exact hmap6)
     have HPU:Hid (∃ e∈moveT (splitL p) (splitL q) T.L,e.p=u.p):=hid ⟨_,moveT_mem.2 ⟨u,HUM.out,rfl⟩,rfl⟩
     have HPD:Hid (∃ e∈moveT (splitL p) (splitL q) T.L,e.p=d.p):=hid ⟨_,moveT_mem.2 ⟨d,HDM.out,rfl⟩,rfl⟩
     have hia1:((splitL p).length:Int) - 1≤(vac:Int):=by omega
     have hla0:=List.length_pos_iff.2 HL0.out
     have hia3:(1:Int)≤((splitL p).length:Int):=by omega
     have hia0:(0:Int)≤((splitL p).length:Int) - 1:=by omega
     have hia2:((splitL p).length:Int) - 1 < ((splitL p).length:Int):=by omega
     have hlma:=splitL_short p
     have hwra:IntKind.i64.wrap (((splitL p).length:Int) - 1)=((splitL p).length:Int) - 1:=by rw[IntKind.wrap_i64];omega
     have htna:(((splitL p).length:Int) - 1).toNat=(splitL p).length - 1:=by omega
     have hib1:((splitL q).length:Int) - 1≤(vbc:Int):=by omega
     have hlb0:=List.length_pos_iff.2 HNB.out
     have hib3:(1:Int)≤((splitL q).length:Int):=by omega
     have hib0:(0:Int)≤((splitL q).length:Int) - 1:=by omega
     have hib2:((splitL q).length:Int) - 1 < ((splitL q).length:Int):=by omega
     have hwrb:IntKind.i64.wrap (((splitL q).length:Int) - 1)=((splitL q).length:Int) - 1:=by rw[IntKind.wrap_i64];omega
     have htnb:(((splitL q).length:Int) - 1).toNat=(splitL q).length - 1:=by omega
     clear hmapu hmap5 ht5 hmapd hputl hmap6 ht6 hrowa hvea hrowb hveb hlasta hlastb hcla hclb hcu hcd5 hcb5 hga hgaw hgb hgbw hqb
     unfold ptr at*
     by_cases hpp:d.p=u.p
     · have hnq:=neq_same w4 hpp
       unfold ptr at hnq
       clear hpp
       go_wp2_with fail
       refine ST.out.mono ?_
       rintro ex w7 ⟨rfl,hw7⟩
       obtain rfl:w4=w7:=hw7.symm
       clear cdm hlen ST hnq h16i hwd hlma hbl
       go_wp2
       refine wp_region_held_drew (S:=(fun w':World=>w'.cell? ⟨u.p,10,none⟩=some (.map (some ub))∧w'.cell? ⟨ga,(splitL p).length - 1,none⟩=some (.string ⟨sa.toArray⟩))) (by kernel_rfl) HSA.out (fun zh=>?_)
       iterate 10
        first|refine' tj 0 rfl rfl (fun _ _ _ h=>h) ?_ zh ?_|refine' tj 1 rfl rfl (fun _ _ _ h=>h) ?_ zh ?_|refine' tj 2 rfl rfl (fun _ _ _ h=>h) ?_ zh ?_|refine' tj 3 rfl rfl (fun _ _ _ h=>h) ?_ zh ?_|refine' tj 4 rfl rfl (fun _ _ _ h=>h) ?_ zh ?_|refine' tj 5 rfl rfl (fun _ _ _ h=>h) ?_ zh ?_|refine' tj 6 rfl rfl (fun _ _ _ h=>h) ?_ zh ?_|refine' tj 7 rfl rfl (fun _ _ _ h=>h) ?_ zh ?_|refine' tj 8 rfl rfl (fun _ _ _ h=>h) ?_ zh ?_|refine' tj 9 rfl rfl (fun _ _ _ h=>h) ?_ zh ?_
        rotate_left
        · intro wS hS;obtain⟨k0,k1⟩:=hS;go_simp;try rfl
        try simp only[Act.put,zA,zB,zC,zD,zE,zF]
       refine wpAnyH_ready (rs:=[10]) (by kernel_rfl) (by simp) ?_
       refine AllReadyH.cons rfl (fun K hK=>?_) AllReadyH.nil
       go_simp
       refine hK.out _ _ HSA2.out ?_
       clear hK K zh
       intro zh
       try simp only[Act.put,zA,zB,zC,zD,zE,zF]
       refine wpAnyH_done (by kernel_rfl) ?_ _
       clear zh
       try simp only[Act.put,zA,zB,zC,zD,zE,zF]
       go_wp2
       refine wp_region_held_drew (S:=(fun w':World=>w'.cell? ⟨d.p,10,none⟩=some (.map (some db))∧w'.cell? ⟨gb,(splitL q).length - 1,none⟩=some (.string ⟨sb.toArray⟩))) (by kernel_rfl) HSB.out (fun zh=>?_)
       iterate 11
        first|refine' tj 0 rfl rfl (fun _ _ _ h=>h) ?_ zh ?_|refine' tj 1 rfl rfl (fun _ _ _ h=>h) ?_ zh ?_|refine' tj 2 rfl rfl (fun _ _ _ h=>h) ?_ zh ?_|refine' tj 3 rfl rfl (fun _ _ _ h=>h) ?_ zh ?_|refine' tj 4 rfl rfl (fun _ _ _ h=>h) ?_ zh ?_|refine' tj 5 rfl rfl (fun _ _ _ h=>h) ?_ zh ?_|refine' tj 6 rfl rfl (fun _ _ _ h=>h) ?_ zh ?_|refine' tj 7 rfl rfl (fun _ _ _ h=>h) ?_ zh ?_|refine' tj 8 rfl rfl (fun _ _ _ h=>h) ?_ zh ?_|refine' tj 9 rfl rfl (fun _ _ _ h=>h) ?_ zh ?_|refine' tj 10 rfl rfl (fun _ _ _ h=>h) ?_ zh ?_
        rotate_left
        · intro wS hS;obtain⟨k0,k1⟩:=hS;go_simp;try rfl
        try simp only[Act.put,zA,zB,zC,zD,zE,zF]
       refine wpAnyH_ready (rs:=[11]) (by kernel_rfl) (by simp) ?_
       refine AllReadyH.cons rfl (fun K hK=>?_) AllReadyH.nil
       go_simp
       refine hK.out _ _ HSB2.out ?_
       clear hK K zh
       intro zh
       try simp only[Act.put,zA,zB,zC,zD,zE,zF]
       refine wpAnyH_done (by kernel_rfl) ?_ _
       clear zh
       try simp only[Act.put,zA,zB,zC,zD,zE,zF]
       go_wp2_with fail
       refine(touch_row B w6 r {T with L:=moveT (splitL p) (splitL q) T.L} [u.p,d.p] 2 rfl (by simp) (by intro x hx;simp only[List.mem_cons,List.not_mem_nil,or_false] at hx;rcases hx with rfl|rfl <;> first|exact HPU.out|exact HPD.out) (by have:=HCL.out;show T.clock < _;omega) HTI.out).mono ?_
       rintro ex w8 ⟨rfl,ht8,hu8⟩
       have HT8:=hid ht8;have HU8:=hid hu8
       clear ht8 hu8
       go_wp2
       go_ret
       rw[HT.out,HCC.out]
       exact move_end HB4.out HT5.out HT6.out HUO.out HDO.out HT8.out HU8.out HMK.out HUM.out HCL.out HNU.out HQB.out (by have:=H16.out;omega)
     · have h256i:¬ (256:Int)≤((kidsT T.L d.nm).length:Int):=by have:=HOR.out.resolve_left hpp;omega
       have hnq:=neq_other w4 hpp (H4.out.node d HDM.out).cells (H4.out.node u HUM.out).cells
       unfold ptr at hnq
       go_wp2_with fail
       refine ST.out.mono ?_
       rintro ex w7 ⟨rfl,hw7⟩
       obtain rfl:w4=w7:=hw7.symm
       clear cdm hlen ST hnq h16i hwd hlma hbl
       go_wp2
       refine wp_region_held_drew (S:=(fun w':World=>w'.cell? ⟨u.p,10,none⟩=some (.map (some ub))∧w'.cell? ⟨ga,(splitL p).length - 1,none⟩=some (.string ⟨sa.toArray⟩))) (by kernel_rfl) HSA.out (fun zh=>?_)
       iterate 10
        first|refine' tj 0 rfl rfl (fun _ _ _ h=>h) ?_ zh ?_|refine' tj 1 rfl rfl (fun _ _ _ h=>h) ?_ zh ?_|refine' tj 2 rfl rfl (fun _ _ _ h=>h) ?_ zh ?_|refine' tj 3 rfl rfl (fun _ _ _ h=>h) ?_ zh ?_|refine' tj 4 rfl rfl (fun _ _ _ h=>h) ?_ zh ?_|refine' tj 5 rfl rfl (fun _ _ _ h=>h) ?_ zh ?_|refine' tj 6 rfl rfl (fun _ _ _ h=>h) ?_ zh ?_|refine' tj 7 rfl rfl (fun _ _ _ h=>h) ?_ zh ?_|refine' tj 8 rfl rfl (fun _ _ _ h=>h) ?_ zh ?_|refine' tj 9 rfl rfl (fun _ _ _ h=>h) ?_ zh ?_
        rotate_left
        · intro wS hS;obtain⟨k0,k1⟩:=hS;go_simp;try rfl
        try simp only[Act.put,zA,zB,zC,zD,zE,zF]
       refine wpAnyH_ready (rs:=[10]) (by kernel_rfl) (by simp) ?_
       refine AllReadyH.cons rfl (fun K hK=>?_) AllReadyH.nil
       go_simp
       refine hK.out _ _ HSA2.out ?_
       clear hK K zh
       intro zh
       try simp only[Act.put,zA,zB,zC,zD,zE,zF]
       refine wpAnyH_done (by kernel_rfl) ?_ _
       clear zh
       try simp only[Act.put,zA,zB,zC,zD,zE,zF]
       go_wp2
       refine wp_region_held_drew (S:=(fun w':World=>w'.cell? ⟨d.p,10,none⟩=some (.map (some db))∧w'.cell? ⟨gb,(splitL q).length - 1,none⟩=some (.string ⟨sb.toArray⟩))) (by kernel_rfl) HSB.out (fun zh=>?_)
       iterate 11
        first|refine' tj 0 rfl rfl (fun _ _ _ h=>h) ?_ zh ?_|refine' tj 1 rfl rfl (fun _ _ _ h=>h) ?_ zh ?_|refine' tj 2 rfl rfl (fun _ _ _ h=>h) ?_ zh ?_|refine' tj 3 rfl rfl (fun _ _ _ h=>h) ?_ zh ?_|refine' tj 4 rfl rfl (fun _ _ _ h=>h) ?_ zh ?_|refine' tj 5 rfl rfl (fun _ _ _ h=>h) ?_ zh ?_|refine' tj 6 rfl rfl (fun _ _ _ h=>h) ?_ zh ?_|refine' tj 7 rfl rfl (fun _ _ _ h=>h) ?_ zh ?_|refine' tj 8 rfl rfl (fun _ _ _ h=>h) ?_ zh ?_|refine' tj 9 rfl rfl (fun _ _ _ h=>h) ?_ zh ?_|refine' tj 10 rfl rfl (fun _ _ _ h=>h) ?_ zh ?_
        rotate_left
        · intro wS hS;obtain⟨k0,k1⟩:=hS;go_simp;try rfl
        try simp only[Act.put,zA,zB,zC,zD,zE,zF]
       refine wpAnyH_ready (rs:=[11]) (by kernel_rfl) (by simp) ?_
       refine AllReadyH.cons rfl (fun K hK=>?_) AllReadyH.nil
       go_simp
       refine hK.out _ _ HSB2.out ?_
       clear hK K zh
       intro zh
       try simp only[Act.put,zA,zB,zC,zD,zE,zF]
       refine wpAnyH_done (by kernel_rfl) ?_ _
       clear zh
       try simp only[Act.put,zA,zB,zC,zD,zE,zF]
       go_wp2_with fail
       refine(touch_row B w6 r {T with L:=moveT (splitL p) (splitL q) T.L} [u.p,d.p] 2 rfl (by simp) (by intro x hx;simp only[List.mem_cons,List.not_mem_nil,or_false] at hx;rcases hx with rfl|rfl <;> first|exact HPU.out|exact HPD.out) (by have:=HCL.out;show T.clock < _;omega) HTI.out).mono ?_
       rintro ex w8 ⟨rfl,ht8,hu8⟩
       have HT8:=hid ht8;have HU8:=hid hu8
       clear ht8 hu8
       go_wp2
       go_ret
       rw[HT.out,HCC.out]
       exact move_end HB4.out HT5.out HT6.out HUO.out HDO.out HT8.out HU8.out HMK.out HUM.out HCL.out HNU.out HQB.out (by have:=H16.out;omega)
  have hlti:¬ ((splitL p).length:Int) < ((splitL q).length:Int):=by omega
  have HE3:Hid (moveE p q T=if (getT (splitL q) T.L).isSome then 7
        else if abvE (splitL q) T.L≠0 then abvE (splitL q) T.L
        else if 16 < (splitL q).length+deepN T.L (splitL p) then 10
        else if ((splitL q).dropLast≠(splitL p).dropLast∧256≤(kidsT T.L (splitL q).dropLast).length)∨1099511627776≤T.clock then 3 else 0):=hid (by rw[HE2.out,if_neg (fun h=>h.elim hl0 (fun h=>hlt h.1))])
  have HOFF0:Hid (∀ t,t≠[]→splitL q≠splitL p++t):=hid (fun t ht h=>hlt (by rw[h,List.length_append];have:=List.length_pos_iff.2 ht;omega))
  clear hl0 hlt
  cases hgb:getT (splitL q) T.L with
  |some x=>
   unfold ptrO
   obtain⟨W,hW⟩:∃ W,W=w2:=⟨_,rfl⟩
   have hbW:Below w2.heap.size w2 W:=by rw[hW];exact Below.refl _ _
   rw[←hW]
   clear hW
   have hc:moveE p q T=7:=by rw[HE3.out,hgb];rfl
   have HT:Hid (moveTr p q T=T):=hid (moveTr_no (by rw[hc];decide))
   have HCC:=hid hc
   have HB3:Hid (Below w.heap.size w W):=hid (HB2.out.trans (hbW.mono HB2.out.size))
   clear hc
   go_wp2
   go_ret
   exact callPost_no H.out HT.out HCC.out rfl HB3.out
  |none=>
   unfold ptrO
   have HE4:Hid (moveE p q T=if abvE (splitL q) T.L≠0 then abvE (splitL q) T.L
    else if 16 < (splitL q).length+deepN T.L (splitL p) then 10
    else if ((splitL q).dropLast≠(splitL p).dropLast∧256≤(kidsT T.L (splitL q).dropLast).length)∨1099511627776≤T.clock then 3 else 0):=hid (by rw[HE3.out,hgb];rfl)
   have HGB0:=hid hgb
   have HNB:Hid (splitL q≠[]):=hid (H.out.root_path hgb)
   have HOFF:Hid (¬ splitL p <+:splitL q):=hid (by
    rintro ⟨t,ht⟩
    by_cases h:t=[]
    · subst h
      rw[List.append_nil] at ht
      rw[←ht,HG.out] at hgb;cases hgb
    · exact HOFF0.out t h ht.symm)
   clear hgb
   obtain⟨W,hW⟩:∃ W,W=w2:=⟨_,rfl⟩
   have hbW:Below w2.heap.size w2 W:=by rw[hW];exact Below.refl _ _
   rw[←hW]
   clear hW
   have HBW:Hid (Below w.heap.size w W):=hid (HB2.out.trans (hbW.mono HB2.out.size))
   have HAW:=hid (HA2.out.below hbW);have HQW:=hid (HQ2.out.below hbW)
   have HWS:=hid hbW.size
   clear hbW
   have H3:=hid (H.out.below HBW.out)
   have AB:=above_any B w1.heap.size W r T _ (splitL q) HNB.out (splitL_short q) HQW.out H3.out
   have HE5:Hid (moveE p q T=if abvE (splitL q) T.L≠0 then abvE (splitL q) T.L else if 16 < (splitL q).length+deepN T.L (splitL p) then 10
    else if ((splitL q).dropLast≠(splitL p).dropLast∧256≤(kidsT T.L (splitL q).dropLast).length)∨1099511627776≤T.clock then 3 else 0):=HE4
   by_cases hab:abvE (splitL q) T.L=0
   case neg=>
    have hc:moveE p q T=abvE (splitL q) T.L:=by rw[HE5.out,if_pos hab]
    have HT:Hid (moveTr p q T=T):=hid (moveTr_no (by rw[hc];exact hab))
    have HCB:=hid hc
    have h611:abvE (splitL q) T.L=6∨abvE (splitL q) T.L=11:=by
     unfold abvE at hab ⊢
     split
     · exact .inl rfl
     · next d hd=>
       split
       · next h2=>rw [hd] at hab;exact absurd (if_pos h2) hab
       · exact .inr rfl
    have HNN:Hid (abvN (splitL q) T.L=none):=hid (by
     unfold abvE at hab
     rw[abvN]
     cases hd:getT (splitL q).dropLast T.L with
     |none=>rfl
     |some d=>
      rw[hd] at hab
      dsimp only at hab ⊢
      split
      · next h2=>exact absurd (if_pos h2) hab
      · rfl)
    rw[HNN.out] at AB
    clear hab hc
    rcases h611 with h6|h6
    · rw[h6] at AB
      have HCC:=hid (HCB.out.trans h6)
      unfold ptr ptrO at AB
      have AB:=hid AB
      clear h6
      go_wp2_with fail
      refine AB.out.mono ?_
      rintro ex w3 ⟨rfl,hw3⟩
      obtain rfl:W=w3:=hw3.symm
      go_wp2
      go_ret
      exact callPost_no H.out HT.out HCC.out rfl HBW.out
    · rw[h6] at AB
      have HCC:=hid (HCB.out.trans h6)
      unfold ptr ptrO at AB
      have AB:=hid AB
      clear h6
      go_wp2_with fail
      refine AB.out.mono ?_
      rintro ex w3 ⟨rfl,hw3⟩
      obtain rfl:W=w3:=hw3.symm
      go_wp2
      go_ret
      exact callPost_no H.out HT.out HCC.out rfl HBW.out
   have HE6:Hid (moveE p q T=if 16 < (splitL q).length+deepN T.L (splitL p) then 10
    else if ((splitL q).dropLast≠(splitL p).dropLast∧256≤(kidsT T.L (splitL q).dropLast).length)∨1099511627776≤T.clock then 3 else 0):=hid (by rw[HE5.out,if_neg (by simpa using hab)])
   obtain⟨d,hgd,hd2⟩:∃ d,getT (splitL q).dropLast T.L=some d∧d.at_.node=2:=by
    unfold abvE at hab
    cases hd:getT (splitL q).dropLast T.L with
    |none=>rw [hd] at hab;cases hab
    |some d=>
     rw[hd] at hab
     dsimp only at hab
     by_cases h2:d.at_.node=2
     · exact⟨d,rfl,h2⟩
     · rw[if_neg h2] at hab;cases hab
   obtain⟨hdm,hdn⟩:=getT_nm hgd
   have hdmm:d.m≠none:=(H.out.kind d hdm).1 hd2
   obtain⟨db,hdb⟩:=Option.ne_none_iff_exists'.1 hdmm
   obtain⟨u,ub,sa,hu,hnu,hun,hub,hgu,hu2⟩:=H.out.up HN.out (by rw[HNN.out];exact HL0.out)
   rw[HNN.out] at hnu hun hgu
   have HAN:Hid (abvN (splitL q) T.L=some d):=hid (by rw[abvN,hgd];simp[hd2])
   have HAE2:Hid (abvE (splitL p) T.L=0):=hid (by rw[abvE,hgu];simp[hu2])
   have HAN2:Hid (abvN (splitL p) T.L=some u):=hid (by rw[abvN,hgu];simp[hu2])
   have AB2:=above_any B w.heap.size W r T _ (splitL p) HL0.out (splitL_short p) HAW.out H3.out
   rw[HAE2.out,HAN2.out] at AB2
   rw[hab,HAN.out] at AB
   unfold ptr ptrO at AB AB2
   have AB:=hid AB;have AB2:=hid AB2
   have DP:=deep_any B r T (fun e he=>Nat.le_trans (HM.out e he) (by decide)) 1000 n HN.out (by omega) W H3.out
   rw[HNN.out] at DP
   unfold ptr at DP
   have DP:=hid DP
   have HDM:=hid hdm;have HDN:=hid hdn;have HDB:=hid hdb;have HUM:=hid hu;have HNU:=hid hnu;have HUN:=hid hun;have HUB:=hid hub;have HGU:=hid hgu;have HGD:=hid hgd;have HDMM:=hid hdmm
   have HKB:Hid ((kidsT T.L d.nm).length≤500000):=hid (Nat.le_trans (kids_le _ _) HLL.out)
   have hdpl:deepN T.L (splitL p)≤16:=deepN_bound HM.out
   have hbl:=splitL_short q
   have hwd:IntKind.i64.wrap (((splitL q).length:Int)+(deepN T.L (splitL p):Int))=((splitL q).length:Int)+(deepN T.L (splitL p):Int):=by rw[IntKind.wrap_i64];omega
   clear hab hgd hd2 hdm hdn hdmm hdb hu hnu hun hub hgu hu2
   by_cases h16:16 < (splitL q).length+deepN T.L (splitL p)
   · have hc:moveE p q T=10:=by rw[HE6.out,if_pos h16]
     have HT:Hid (moveTr p q T=T):=hid (moveTr_no (by rw[hc];decide))
     have HCC:=hid hc
     have h16i:(16:Int) < ((splitL q).length:Int)+(deepN T.L (splitL p):Int):=by omega
     clear hc h16
     go_wp2_with fail
     refine AB.out.mono ?_
     rintro ex w3 ⟨rfl,hw3⟩
     obtain rfl:W=w3:=hw3.symm
     go_wp2_with fail
     refine AB2.out.mono ?_
     rintro ex w3 ⟨rfl,hw3⟩
     obtain rfl:W=w3:=hw3.symm
     go_wp2_with fail
     refine DP.out.mono ?_
     rintro ex w4 ⟨rfl,hb4⟩
     have HB4:=hid (HBW.out.trans (hb4.mono HBW.out.size))
     clear hb4
     go_wp2
     go_ret
     exact callPost_no H.out HT.out HCC.out rfl HB4.out
   have HE7:Hid (moveE p q T=if ((splitL q).dropLast≠(splitL p).dropLast∧256≤(kidsT T.L (splitL q).dropLast).length)∨1099511627776≤T.clock then 3 else 0):=hid (by rw[HE6.out,if_neg h16])
   have h16i:¬ (16:Int) < ((splitL q).length:Int)+(deepN T.L (splitL p):Int):=by omega
   have H16:=hid h16
   clear h16
   go_wp2_with fail
   refine AB.out.mono ?_
   rintro ex w3 ⟨rfl,hw3⟩
   obtain rfl:W=w3:=hw3.symm
   go_wp2_with fail
   refine AB2.out.mono ?_
   rintro ex w3 ⟨rfl,hw3⟩
   obtain rfl:W=w3:=hw3.symm
   go_wp2_with fail
   refine DP.out.mono ?_
   rintro ex w4 ⟨rfl,hb4⟩
   have HB4:=hid (HBW.out.trans (hb4.mono HBW.out.size))
   have HA4:=hid (HAW.out.below hb4);have HQ4:=hid (HQW.out.below hb4)
   have HWS4:=hid (Nat.le_trans HWS.out hb4.size)
   clear hb4 AB AB2 DP hdpl
   have H4:=hid (H.out.below HB4.out)
   have HPP:Hid (d.p=u.p ↔ (splitL q).dropLast=(splitL p).dropLast):=hid (by
    rw[←HDN.out,←HUN.out]
    exact⟨fun h=>by rw[H.out.p_inj HDM.out HUM.out h],fun h=>by rw[srtT_inj H.out.srt HDM.out HUM.out h]⟩)
   have ST:=still_any B w4 r T H4.out
   unfold ptr at ST
   have cdm:w4.cell? ⟨d.p,10,none⟩=some (mapV d.m):=cell_of_heap (H4.out.node d HDM.out).cells
   rw[HDB.out] at cdm
   unfold mapV at cdm
   have hlen:=((H4.out.node d HDM.out).kids db HDB.out).len Tryz.underlying80
   simp only[toD_size] at hlen
   have HFULL:Hid (∀ c:Bool,c=decide (1099511627776≤T.clock)→(d.p=u.p∨¬ 256≤(kidsT T.L d.nm).length)→moveE p q T=if c then 3 else 0):=hid (fun c hc hor=>by
    rw[HE7.out]
    have:¬ ((splitL q).dropLast≠(splitL p).dropLast∧256≤(kidsT T.L (splitL q).dropLast).length):=by
     rintro ⟨h1,h2⟩
     rcases hor with h3|h3
     · exact h1 (HPP.out.1 h3)
     · rw[HDN.out] at h3;exact h3 h2
    by_cases h4:1099511627776≤T.clock
    · rw[if_pos (.inr h4),hc,decide_eq_true h4];rfl
    · rw[if_neg (fun h=>h.elim this h4),hc,decide_eq_false h4];rfl)
   by_cases hfull:d.p≠u.p∧256≤(kidsT T.L d.nm).length
   · have hc:moveE p q T=3:=by
      rw[HE7.out,if_pos (.inl ⟨fun h=>hfull.1 (HPP.out.2 h),by rw[←HDN.out];exact hfull.2⟩)]
     have HT:Hid (moveTr p q T=T):=hid (moveTr_no (by rw[hc];decide))
     have HCC:=hid hc
     obtain⟨hne,h256⟩:=hfull
     have hnq:=neq_other w4 hne (H4.out.node d HDM.out).cells (H4.out.node u HUM.out).cells
     unfold ptr at hnq
     have h256i:(256:Int)≤((kidsT T.L d.nm).length:Int):=by omega
     clear hc h256
     go_wp2
     go_ret
     exact callPost_no H.out HT.out HCC.out rfl HB4.out
   have HOR:Hid (d.p=u.p∨¬ 256≤(kidsT T.L d.nm).length):=hid (by
    by_cases h1:d.p=u.p
    · exact .inl h1
    · exact .inr (fun h2=>hfull ⟨h1,h2⟩))
   clear hfull
   by_cases hst:1099511627776≤T.clock
   · have hc:moveE p q T=3:=by rw[HFULL.out true (decide_eq_true hst).symm HOR.out];rfl
     have HT:Hid (moveTr p q T=T):=hid (moveTr_no (by rw[hc];decide))
     have HCC:=hid hc
     rw[decide_eq_true hst] at ST
     have ST:=hid ST
     clear hc hst
     by_cases hpp:d.p=u.p
     · have hnq:=neq_same w4 hpp
       unfold ptr at hnq
       clear hpp
       go_wp2_with fail
       refine ST.out.mono ?_
       rintro ex w5 ⟨rfl,hw5⟩
       obtain rfl:w4=w5:=hw5.symm
       go_wp2
       go_ret
       exact callPost_no H.out HT.out HCC.out rfl HB4.out
     · have h256i:¬ (256:Int)≤((kidsT T.L d.nm).length:Int):=by have:=HOR.out.resolve_left hpp;omega
       have hnq:=neq_other w4 hpp (H4.out.node d HDM.out).cells (H4.out.node u HUM.out).cells
       unfold ptr at hnq
       go_wp2_with fail
       refine ST.out.mono ?_
       rintro ex w5 ⟨rfl,hw5⟩
       obtain rfl:w4=w5:=hw5.symm
       go_wp2
       go_ret
       exact callPost_no H.out HT.out HCC.out rfl HB4.out
   have hc:moveE p q T=0:=by rw[HFULL.out false (decide_eq_false hst).symm HOR.out];rfl
   have HT:Hid (moveTr p q T={T with clock:=T.clock+1,L:=tickT [u.p,d.p] ((T.clock+1:Nat):Int) (moveT (splitL p) (splitL q) T.L)}):=hid (by rw[moveTr,if_pos hc,HGU.out,HGD.out])
   have HCC:=hid hc
   rw[decide_eq_false hst] at ST
   have ST:=hid ST
   have HCL:Hid (T.clock < 1099511627776):=hid (by omega)
   clear hc hst
   -- the names' last
   obtain⟨ga,vac',hvea,hga,hgaw,hgac,hrowa⟩:=rowS_form HA4.out.row (by have:=List.length_pos_iff.2 HL0.out;omega)
   obtain⟨rfl,rfl⟩:va=some ⟨ga,0,none⟩∧vac=vac':=by injection hvea with e1 _ e3;exact⟨e1,e3⟩
   obtain⟨gb,vbc',hveb,hgb,hgbw,hgbc,hrowb⟩:=rowS_form HQ4.out.row (by have:=List.length_pos_iff.2 HNB.out;omega)
   obtain⟨rfl,rfl⟩:vb=some ⟨gb,0,none⟩∧vbc=vbc':=by injection hveb with e1 _ e3;exact⟨e1,e3⟩
   obtain⟨sb,hqb⟩:∃ sb,splitL q=d.nm++[sb]:=⟨(splitL q).getLast HNB.out,by rw[HDN.out];exact(List.dropLast_concat_getLast HNB.out).symm⟩
   have HQB:=hid hqb
   have hlasta:(splitL p)[(splitL p).length - 1]? =some sa:=by rw[HNU.out,List.length_append];simp
   have hlastb:(splitL q)[(splitL q).length - 1]? =some sb:=by rw[hqb,List.length_append];simp
   have hcla:w4.cell? ⟨ga,(splitL p).length - 1,none⟩=some (.string ⟨sa.toArray⟩):=hrowa _ _ (by rw[List.getElem?_map,hlasta];rfl)
   have hclb:w4.cell? ⟨gb,(splitL q).length - 1,none⟩=some (.string ⟨sb.toArray⟩):=hrowb _ _ (by rw[List.getElem?_map,hlastb];rfl)
   have HSAL:Hid (sa.length≤maxLen):=hid (HA4.out.len sa (List.mem_of_getElem? hlasta))
   have HSBL:Hid (sb.length≤maxLen):=hid (HQ4.out.len sb (List.mem_of_getElem? hlastb))
   have hcu:w4.cell? ⟨u.p,10,none⟩=some (.map (some ub)):=by
    have:w4.cell? ⟨u.p,10,none⟩=some (mapV u.m):=cell_of_heap (H4.out.node u HUM.out).cells
    rw[HUB.out] at this;exact this
   have HUO:Hid (ub∈ownL T.L):=hid (ownL_mem2 HUM.out HUB.out)
   have HDO:Hid (db∈ownL T.L):=hid (ownL_mem2 HDM.out HDB.out)
   have HUW:Hid (ub < w.heap.size):=hid (H.out.lt ub (by simp[HUO.out]))
   have HDW:Hid (db < w.heap.size):=hid (H.out.lt db (by simp[HDO.out]))
   have HUP:Hid (∀ x∈T.L,x.p≠ub∧x.p≠db):=hid (fun x hx=>by
    have key:∀ (y:TE) (b:Nat),y∈T.L→y.m=some b→x.p≠b:=by
     intro y b hy hb he
     have hxy:x=y:=flat_inj H.out.own_nod hx hy (x:=x.p) (by simp[ownE]) (by simp[ownE,hb,he])
     subst hxy
     have hnd:=own_nodE H.out.own_nod hx
     rw[ownE,List.nodup_cons,hb] at hnd
     exact hnd.1 (by rw[he];simp)
    exact⟨key u ub HUM.out HUB.out,key d db HDM.out HDB.out⟩)
   have HWW:Hid (w.heap.size≤w1.heap.size):=HW1
   have HGA:=hid hgaw;have HGB:=hid hgbw
   -- the name goes out
   have hmapu:=((H4.out.below (Below.refl _ _).drew).node u HUM.out).kids ub HUB.out
   obtain⟨w5,hrun5,hmap5,ht5⟩:=kid_drop (w:=w4.drew) hmapu sa HSAL.out 0
   have HT5:Hid (Turn [ub] w4 w5):=hid ((Turn.of_below (Below.refl w4.heap.size w4).drew).trans ht5 (fun y hy=> .inl hy))
   have HSA:Hid (w4.drew.cell? ⟨u.p,10,none⟩=some (.map (some ub))∧w4.drew.cell? ⟨ga,(splitL p).length - 1,none⟩=some (.string ⟨sa.toArray⟩)):=hid ⟨hcu,hcla⟩
   have HSA2:Hid (w5.cell? ⟨u.p,10,none⟩=some (.map (some ub))∧w5.cell? ⟨ga,(splitL p).length - 1,none⟩=some (.string ⟨sa.toArray⟩)):=hid ⟨(World.cell?_of_block (a:=⟨u.p,10,none⟩) (HT5.out.block _ (H4.out.lt u.p (by have:=ownL_mem HUM.out;simp[this])) (by have:=(HUP.out u HUM.out).1;simpa using this))).trans hcu,(World.cell?_of_block (a:=⟨ga,(splitL p).length - 1,none⟩) (HT5.out.block _ hga (by have:=HUW.out;have:=HGA.out;simp;omega))).trans hcla⟩
   -- the name comes in
   have hcd5:w5.cell? ⟨d.p,10,none⟩=some (.map (some db)):=(World.cell?_of_block (a:=⟨d.p,10,none⟩) (HT5.out.block _ (H4.out.lt d.p (by have:=ownL_mem HDM.out;simp[this])) (by have:=(HUP.out d HDM.out).1;simpa using this))).trans cdm
   have hcb5:w5.cell? ⟨gb,(splitL q).length - 1,none⟩=some (.string ⟨sb.toArray⟩):=(World.cell?_of_block (a:=⟨gb,(splitL q).length - 1,none⟩) (HT5.out.block _ hgb (by have:=HUW.out;have:=HGB.out;have:=HWW.out;simp;omega))).trans hclb
   have hmapd:w5.drew.ownsMap Tryz.prog 9 Rv db 1000000 (toD ptr (if d.nm=u.nm then delM (kidsT T.L d.nm) sa else kidsT T.L d.nm)):=by
    by_cases hdu:d.nm=u.nm
    · have hdu2:d=u:=srtT_inj H.out.srt HDM.out HUM.out hdu
      obtain rfl:ub=db:=by have h1:=HUB.out;rw[←hdu2,HDB.out] at h1;exact(Option.some.inj h1).symm
      rw[if_pos hdu,hdu]
      exact ownsMap_block hmap5 rfl
    · rw[if_neg hdu]
      refine ownsMap_block ((H4.out.node d HDM.out).kids db HDB.out) (HT5.out.block _ (Nat.lt_of_lt_of_le HDW.out HB4.out.size) ?_)
      rw[List.mem_singleton]
      rintro rfl
      exact hdu (by rw[flat_inj H.out.own_nod HDM.out HUM.out (x:=db) (by simp[ownE,HDB.out]) (by simp[ownE,HUB.out])])
   have hputl:(putM (if d.nm=u.nm then delM (kidsT T.L d.nm) sa else kidsT T.L d.nm) sb n.p).length≤1000000:=by
    have h1:=(put_perm sb n.p (if d.nm=u.nm then delM (kidsT T.L d.nm) sa else kidsT T.L d.nm)).length_eq
    have h2:(delM (if d.nm=u.nm then delM (kidsT T.L d.nm) sa else kidsT T.L d.nm) sb).length≤(if d.nm=u.nm then delM (kidsT T.L d.nm) sa else kidsT T.L d.nm).length:=List.length_filter_le _ _
    have h3:(if d.nm=u.nm then delM (kidsT T.L d.nm) sa else kidsT T.L d.nm).length≤(kidsT T.L d.nm).length:=by
     split
     · exact List.length_filter_le _ _
     · exact Nat.le_refl _
    have:=HKB.out
    rw[h1,List.length_cons];omega
   obtain⟨w6,hrun6,hmap6,ht6⟩:=kid_store hmapd sb HSBL.out n.p hputl
   unfold ptr at hrun6
   have HT6:Hid (Turn [db] w5 w6):=hid ((Turn.of_below (Below.refl w5.heap.size w5).drew).trans ht6 (fun y hy=> .inl hy))
   have HSB:Hid (w5.drew.cell? ⟨d.p,10,none⟩=some (.map (some db))∧w5.drew.cell? ⟨gb,(splitL q).length - 1,none⟩=some (.string ⟨sb.toArray⟩)):=hid ⟨hcd5,hcb5⟩
   have HSB2:Hid (w6.cell? ⟨d.p,10,none⟩=some (.map (some db))∧w6.cell? ⟨gb,(splitL q).length - 1,none⟩=some (.string ⟨sb.toArray⟩)):=hid ⟨(World.cell?_of_block (a:=⟨d.p,10,none⟩) (HT6.out.block _ (Nat.lt_of_lt_of_le (H4.out.lt d.p (by have:=ownL_mem HDM.out;simp[this])) HT5.out.size) (by have:=(HUP.out d HDM.out).2;simpa using this))).trans hcd5,(World.cell?_of_block (a:=⟨gb,(splitL q).length - 1,none⟩) (HT6.out.block _ (Nat.lt_of_lt_of_le hgb HT5.out.size) (by have:=HDW.out;have:=HGB.out;have:=HWW.out;simp;omega))).trans hcb5⟩
   have HMK:Hid (MoveOk u.nm d.nm sa sb T.L n d):=hid ⟨HN.out,by rw[HNN.out];exact HNU.out,by rw[←hqb];exact HGB0.out,by rw[←HNU.out,←hqb];exact HOFF.out,HDM.out,rfl,HDMM.out⟩
   have HTI:Hid (TreeAt B w6 r {T with L:=moveT (splitL p) (splitL q) T.L}):=hid (by
    rw[HNU.out,hqb]
    refine H4.out.move HMK.out HUM.out rfl HUB.out HDB.out ?_ ?_ (fun b hb h1 h2=>(HT6.out.block b (Nat.lt_of_lt_of_le (H4.out.lt b hb) HT5.out.size) (by simpa using h2)).trans (HT5.out.block b (H4.out.lt b hb) (by simpa using h1))) (Nat.le_trans HT5.out.size HT6.out.size)
    · by_cases hdu:d.nm=u.nm
      · have hdu2:d=u:=srtT_inj H.out.srt HDM.out HUM.out hdu
        obtain rfl:ub=db:=by have h1:=HUB.out;rw[←hdu2,HDB.out] at h1;exact(Option.some.inj h1).symm
        rw[kidM,if_pos hdu.symm,if_pos rfl]
        rw[if_pos hdu,hdu] at hmap6
        exact hmap6
      · rw[kidM,if_neg (fun h=>hdu h.symm),if_pos rfl]
        refine ownsMap_block hmap5 (HT6.out.block _ (Nat.lt_of_lt_of_le HUW.out (Nat.le_trans HB4.out.size HT5.out.size)) ?_)
        rw[List.mem_singleton]
        rintro rfl
        exact hdu (by rw[flat_inj H.out.own_nod HDM.out HUM.out (x:=ub) (by simp[ownE,HDB.out]) (by simp[ownE,HUB.out])])
    · rw[kidM,if_pos rfl]
      exact hmap6)
   have HPU:Hid (∃ e∈moveT (splitL p) (splitL q) T.L,e.p=u.p):=hid ⟨_,moveT_mem.2 ⟨u,HUM.out,rfl⟩,rfl⟩
   have HPD:Hid (∃ e∈moveT (splitL p) (splitL q) T.L,e.p=d.p):=hid ⟨_,moveT_mem.2 ⟨d,HDM.out,rfl⟩,rfl⟩
   have hia1:((splitL p).length:Int) - 1≤(vac:Int):=by omega
   have hla0:=List.length_pos_iff.2 HL0.out
   have hia3:(1:Int)≤((splitL p).length:Int):=by omega
   have hia0:(0:Int)≤((splitL p).length:Int) - 1:=by omega
   have hia2:((splitL p).length:Int) - 1 < ((splitL p).length:Int):=by omega
   have hlma:=splitL_short p
   have hwra:IntKind.i64.wrap (((splitL p).length:Int) - 1)=((splitL p).length:Int) - 1:=by rw[IntKind.wrap_i64];omega
   have htna:(((splitL p).length:Int) - 1).toNat=(splitL p).length - 1:=by omega
   have hib1:((splitL q).length:Int) - 1≤(vbc:Int):=by omega
   have hlb0:=List.length_pos_iff.2 HNB.out
   have hib3:(1:Int)≤((splitL q).length:Int):=by omega
   have hib0:(0:Int)≤((splitL q).length:Int) - 1:=by omega
   have hib2:((splitL q).length:Int) - 1 < ((splitL q).length:Int):=by omega
   have hwrb:IntKind.i64.wrap (((splitL q).length:Int) - 1)=((splitL q).length:Int) - 1:=by rw[IntKind.wrap_i64];omega
   have htnb:(((splitL q).length:Int) - 1).toNat=(splitL q).length - 1:=by omega
   clear hmapu hmap5 ht5 hmapd hputl hmap6 ht6 hrowa hvea hrowb hveb hlasta hlastb hcla hclb hcu hcd5 hcb5 hga hgaw hgb hgbw hqb
   unfold ptr at*
   by_cases hpp:d.p=u.p
   · have hnq:=neq_same w4 hpp
     unfold ptr at hnq
     clear hpp
     go_wp2_with fail
     refine ST.out.mono ?_
     rintro ex w7 ⟨rfl,hw7⟩
     obtain rfl:w4=w7:=hw7.symm
     clear cdm hlen ST hnq h16i hwd hlma hbl
     go_wp2
     refine wp_region_held_drew (S:=(fun w':World=>w'.cell? ⟨u.p,10,none⟩=some (.map (some ub))∧w'.cell? ⟨ga,(splitL p).length - 1,none⟩=some (.string ⟨sa.toArray⟩))) (by kernel_rfl) HSA.out (fun zh=>?_)
     iterate 10
      first|refine' tj 0 rfl rfl (fun _ _ _ h=>h) ?_ zh ?_|refine' tj 1 rfl rfl (fun _ _ _ h=>h) ?_ zh ?_|refine' tj 2 rfl rfl (fun _ _ _ h=>h) ?_ zh ?_|refine' tj 3 rfl rfl (fun _ _ _ h=>h) ?_ zh ?_|refine' tj 4 rfl rfl (fun _ _ _ h=>h) ?_ zh ?_|refine' tj 5 rfl rfl (fun _ _ _ h=>h) ?_ zh ?_|refine' tj 6 rfl rfl (fun _ _ _ h=>h) ?_ zh ?_|refine' tj 7 rfl rfl (fun _ _ _ h=>h) ?_ zh ?_|refine' tj 8 rfl rfl (fun _ _ _ h=>h) ?_ zh ?_|refine' tj 9 rfl rfl (fun _ _ _ h=>h) ?_ zh ?_
      rotate_left
      · intro wS hS;obtain⟨k0,k1⟩:=hS;go_simp;try rfl
      try simp only[Act.put,zA,zB,zC,zD,zE,zF]
     refine wpAnyH_ready (rs:=[10]) (by kernel_rfl) (by simp) ?_
     refine AllReadyH.cons rfl (fun K hK=>?_) AllReadyH.nil
     go_simp
     refine hK.out _ _ HSA2.out ?_
     clear hK K zh
     intro zh
     try simp only[Act.put,zA,zB,zC,zD,zE,zF]
     refine wpAnyH_done (by kernel_rfl) ?_ _
     clear zh
     try simp only[Act.put,zA,zB,zC,zD,zE,zF]
     go_wp2
     refine wp_region_held_drew (S:=(fun w':World=>w'.cell? ⟨d.p,10,none⟩=some (.map (some db))∧w'.cell? ⟨gb,(splitL q).length - 1,none⟩=some (.string ⟨sb.toArray⟩))) (by kernel_rfl) HSB.out (fun zh=>?_)
     iterate 11
      first|refine' tj 0 rfl rfl (fun _ _ _ h=>h) ?_ zh ?_|refine' tj 1 rfl rfl (fun _ _ _ h=>h) ?_ zh ?_|refine' tj 2 rfl rfl (fun _ _ _ h=>h) ?_ zh ?_|refine' tj 3 rfl rfl (fun _ _ _ h=>h) ?_ zh ?_|refine' tj 4 rfl rfl (fun _ _ _ h=>h) ?_ zh ?_|refine' tj 5 rfl rfl (fun _ _ _ h=>h) ?_ zh ?_|refine' tj 6 rfl rfl (fun _ _ _ h=>h) ?_ zh ?_|refine' tj 7 rfl rfl (fun _ _ _ h=>h) ?_ zh ?_|refine' tj 8 rfl rfl (fun _ _ _ h=>h) ?_ zh ?_|refine' tj 9 rfl rfl (fun _ _ _ h=>h) ?_ zh ?_|refine' tj 10 rfl rfl (fun _ _ _ h=>h) ?_ zh ?_
      rotate_left
      · intro wS hS;obtain⟨k0,k1⟩:=hS;go_simp;try rfl
      try simp only[Act.put,zA,zB,zC,zD,zE,zF]
     refine wpAnyH_ready (rs:=[11]) (by kernel_rfl) (by simp) ?_
     refine AllReadyH.cons rfl (fun K hK=>?_) AllReadyH.nil
     go_simp
     refine hK.out _ _ HSB2.out ?_
     clear hK K zh
     intro zh
     try simp only[Act.put,zA,zB,zC,zD,zE,zF]
     refine wpAnyH_done (by kernel_rfl) ?_ _
     clear zh
     try simp only[Act.put,zA,zB,zC,zD,zE,zF]
     go_wp2_with fail
     refine(touch_row B w6 r {T with L:=moveT (splitL p) (splitL q) T.L} [u.p,d.p] 2 rfl (by simp) (by intro x hx;simp only[List.mem_cons,List.not_mem_nil,or_false] at hx;rcases hx with rfl|rfl <;> first|exact HPU.out|exact HPD.out) (by have:=HCL.out;show T.clock < _;omega) HTI.out).mono ?_
     rintro ex w8 ⟨rfl,ht8,hu8⟩
     have HT8:=hid ht8;have HU8:=hid hu8
     clear ht8 hu8
     go_wp2
     go_ret
     rw[HT.out,HCC.out]
     exact move_end HB4.out HT5.out HT6.out HUO.out HDO.out HT8.out HU8.out HMK.out HUM.out HCL.out HNU.out HQB.out (by have:=H16.out;omega)
   · have h256i:¬ (256:Int)≤((kidsT T.L d.nm).length:Int):=by have:=HOR.out.resolve_left hpp;omega
     have hnq:=neq_other w4 hpp (H4.out.node d HDM.out).cells (H4.out.node u HUM.out).cells
     unfold ptr at hnq
     go_wp2_with fail
     refine ST.out.mono ?_
     rintro ex w7 ⟨rfl,hw7⟩
     obtain rfl:w4=w7:=hw7.symm
     clear cdm hlen ST hnq h16i hwd hlma hbl
     go_wp2
     refine wp_region_held_drew (S:=(fun w':World=>w'.cell? ⟨u.p,10,none⟩=some (.map (some ub))∧w'.cell? ⟨ga,(splitL p).length - 1,none⟩=some (.string ⟨sa.toArray⟩))) (by kernel_rfl) HSA.out (fun zh=>?_)
     iterate 10
      first|refine' tj 0 rfl rfl (fun _ _ _ h=>h) ?_ zh ?_|refine' tj 1 rfl rfl (fun _ _ _ h=>h) ?_ zh ?_|refine' tj 2 rfl rfl (fun _ _ _ h=>h) ?_ zh ?_|refine' tj 3 rfl rfl (fun _ _ _ h=>h) ?_ zh ?_|refine' tj 4 rfl rfl (fun _ _ _ h=>h) ?_ zh ?_|refine' tj 5 rfl rfl (fun _ _ _ h=>h) ?_ zh ?_|refine' tj 6 rfl rfl (fun _ _ _ h=>h) ?_ zh ?_|refine' tj 7 rfl rfl (fun _ _ _ h=>h) ?_ zh ?_|refine' tj 8 rfl rfl (fun _ _ _ h=>h) ?_ zh ?_|refine' tj 9 rfl rfl (fun _ _ _ h=>h) ?_ zh ?_
      rotate_left
      · intro wS hS;obtain⟨k0,k1⟩:=hS;go_simp;try rfl
      try simp only[Act.put,zA,zB,zC,zD,zE,zF]
     refine wpAnyH_ready (rs:=[10]) (by kernel_rfl) (by simp) ?_
     refine AllReadyH.cons rfl (fun K hK=>?_) AllReadyH.nil
     go_simp
     refine hK.out _ _ HSA2.out ?_
     clear hK K zh
     intro zh
     try simp only[Act.put,zA,zB,zC,zD,zE,zF]
     refine wpAnyH_done (by kernel_rfl) ?_ _
     clear zh
     try simp only[Act.put,zA,zB,zC,zD,zE,zF]
     go_wp2
     refine wp_region_held_drew (S:=(fun w':World=>w'.cell? ⟨d.p,10,none⟩=some (.map (some db))∧w'.cell? ⟨gb,(splitL q).length - 1,none⟩=some (.string ⟨sb.toArray⟩))) (by kernel_rfl) HSB.out (fun zh=>?_)
     iterate 11
      first|refine' tj 0 rfl rfl (fun _ _ _ h=>h) ?_ zh ?_|refine' tj 1 rfl rfl (fun _ _ _ h=>h) ?_ zh ?_|refine' tj 2 rfl rfl (fun _ _ _ h=>h) ?_ zh ?_|refine' tj 3 rfl rfl (fun _ _ _ h=>h) ?_ zh ?_|refine' tj 4 rfl rfl (fun _ _ _ h=>h) ?_ zh ?_|refine' tj 5 rfl rfl (fun _ _ _ h=>h) ?_ zh ?_|refine' tj 6 rfl rfl (fun _ _ _ h=>h) ?_ zh ?_|refine' tj 7 rfl rfl (fun _ _ _ h=>h) ?_ zh ?_|refine' tj 8 rfl rfl (fun _ _ _ h=>h) ?_ zh ?_|refine' tj 9 rfl rfl (fun _ _ _ h=>h) ?_ zh ?_|refine' tj 10 rfl rfl (fun _ _ _ h=>h) ?_ zh ?_
      rotate_left
      · intro wS hS;obtain⟨k0,k1⟩:=hS;go_simp;try rfl
      try simp only[Act.put,zA,zB,zC,zD,zE,zF]
     refine wpAnyH_ready (rs:=[11]) (by kernel_rfl) (by simp) ?_
     refine AllReadyH.cons rfl (fun K hK=>?_) AllReadyH.nil
     go_simp
     refine hK.out _ _ HSB2.out ?_
     clear hK K zh
     intro zh
     try simp only[Act.put,zA,zB,zC,zD,zE,zF]
     refine wpAnyH_done (by kernel_rfl) ?_ _
     clear zh
     try simp only[Act.put,zA,zB,zC,zD,zE,zF]
     go_wp2_with fail
     refine(touch_row B w6 r {T with L:=moveT (splitL p) (splitL q) T.L} [u.p,d.p] 2 rfl (by simp) (by intro x hx;simp only[List.mem_cons,List.not_mem_nil,or_false] at hx;rcases hx with rfl|rfl <;> first|exact HPU.out|exact HPD.out) (by have:=HCL.out;show T.clock < _;omega) HTI.out).mono ?_
     rintro ex w8 ⟨rfl,ht8,hu8⟩
     have HT8:=hid ht8;have HU8:=hid hu8
     clear ht8 hu8
     go_wp2
     go_ret
     rw[HT.out,HCC.out]
     exact move_end HB4.out HT5.out HT6.out HUO.out HDO.out HT8.out HU8.out HMK.out HUM.out HCL.out HNU.out HQB.out (by have:=H16.out;omega)
end Go.Proofs.YtnmejonfdfdegaaGreatDoor.Sr
