import Derived.Test.YtnmejonfdfdegaaGreatDoorZPNmWhole
import Derived.Test.YtnmejonfdfdegaaGreatDoorZPRowKit
import Derived.Laws.Tables
import Derived.Laws.Rows
import Derived.Laws.CopyOwn
import Derived.Laws.ResultCell
import Derived.Deep.MidRow
set_option linter.unusedSimpArgs false
set_option linter.unusedVariables false
set_option maxHeartbeats 8000000
set_option maxRecDepth 100000
namespace Go.Proofs.YtnmejonfdfdegaaGreatDoor.Sr
open Go.RowKit Go.Maps Go.WideMaps Rf Go.Proofs.YtnmejonfdfdegaaGreatDoor.Nm St
open Lib (hid)
theorem wpList_kid {B:Nat} {w:World} {r:Nat} {T:Tr} (h:TreeAt B w r T) {e:TE} (he:e∈T.L) (s:List UInt8) (hs:s.length≤maxLen)
 {ops:Array Oper} {o:Oper} {rest:List Oper} {a:Act} {Q:Exit→Act→World→Prop} (hgd:o.guard=none) (x y:Operand) (ho:o.op= .lookup 80 x y false) (hx:a.eval x=mapV e.m) (hy:a.eval y= .string ⟨s.toArray⟩)
 (hk:wpList Tryz.prog ops Q rest (a.put o.dst (ptrO ((getT (e.nm++[s]) T.L).map TE.p))) w):wpList Tryz.prog ops Q (o::rest) a w:=by
 exact wpList_plain hgd fun _ hK=>by
  unfold Oper.wp
  simp[execOp,ho,hx,hy,kid_look h he s hs,Result.andThen]
  exact hK _ _ hk
theorem look_any (B:Nat) (w:World) (r:Nat) (T:Tr) (v:Value) (l:PN) (hv:StrsAt w v l) (h:TreeAt B w r T):
 Calls Tryz.prog 75 #[ptr r,v] w fun e w'=>e= .returned (ptrO ((getT l T.L).map TE.p))∧w'=w:=by
 obtain⟨va,vc,rfl,hlm,hlx,hlc⟩:=hv
 obtain⟨e0,he0,hq0⟩:=h.root
 obtain⟨hm0,hn0⟩:=getT_nm he0
 have c0:w.cell? ⟨r,0,none⟩=some (ptr e0.p):=cell_of_heap hq0
 have H:=hid h;have HLX:=hid hlx;have HLC:=hid hlc
 unfold maxLen at hlm
 unfold ptr at*
 clear hq0 hlx hlc
 go_enter Tryz.func75,Tryz.ntmps75
 go_wp2
 go_loopw [5,14] (fun v5 v14 wr=>∃ (i:Nat) (e:TE),i≤l.length∧v14= .int .i64 (i:Int)∧v5=ptr e.p∧e∈T.L∧e.nm=l.take i∧wr=w) (fun _ v14 _=>l.length - (RowKit.intOf v14).toNat)
 case atStart=>exact ⟨0,e0,by omega,rfl,rfl,hm0,hn0,rfl⟩
 case round=>
  obtain⟨i,e,hi,rfl,rfl,he,hn,rfl⟩:=hrel
  clear c0 hm0 hn0 he0
  by_cases hil:(i:Int) < (l.length:Int)
  · have hi2:i < l.length:=by omega
    obtain⟨s,hs⟩:∃ s,l[i]? =some s:=⟨_,List.getElem?_eq_getElem hi2⟩
    obtain⟨b,o,rfl,hb,hc⟩:=HLC.out (fun h=>by rw[h] at hi2;cases hi2)
    have cs:=hc i s hs
    have ce:wr.cell? ⟨e.p,10,none⟩=some (mapV e.m):=cell_of_heap (H.out.node e he).cells
    have hsl:=HLX.out s (List.mem_of_getElem? hs)
    have htk:l.take (i+1)=e.nm++[s]:=by rw[List.take_add_one,hs,hn];rfl
    have HE:=hid he
    clear hc hs
    unfold ptr
    cases hg:getT (e.nm++[s]) T.L with
    |none=>
     have hno:Hid (getT l T.L=none):=hid (by
      rw[getT_none]
      intro x hx hxl
      -- each node's fore-names are a node's
      have:∀ k,k≤l.length→∃ u∈T.L,u.nm=l.take (l.length - k):=by
       intro k
       induction k with
       |zero=>intro _;exact⟨x,hx,by rw[hxl];simp⟩
       |succ k ih=>
        intro hk
        obtain⟨u,hu,hun⟩:=ih (by omega)
        obtain⟨q,hq⟩:∃ q,l[l.length - (k+1)]? =some q:=⟨_,List.getElem?_eq_getElem (by omega)⟩
        have e1:l.length - k=l.length - (k+1)+1:=by omega
        rw[e1,List.take_add_one,hq] at hun
        obtain⟨u',hu',h1,_⟩:=H.out.par u hu _ _ hun
        exact⟨u',hu',h1⟩
      obtain⟨u,hu,hun⟩:=this (l.length - (i+1)) (by omega)
      rw[show l.length - (l.length - (i+1))=i+1 by omega,htk] at hun
      exact getT_none.1 hg u hu hun)
     have HG:=hid hg
     clear hg htk he
     go_wp2_with (first
      |(refine wpList_kid H.out HE.out s hsl rfl _ _ rfl rfl rfl ?_;rw[HG.out,Option.map_none,ptrO_none]))
     go_ret
     rw[hno.out]
     exact⟨rfl,rfl⟩
    |some x=>
     have HG:=hid hg
     obtain⟨hx,hxn⟩:=getT_nm hg
     clear hg he
     go_wp2_with (first
      |(refine wpList_kid H.out HE.out s hsl rfl _ _ rfl rfl rfl ?_;rw[HG.out,Option.map_some,ptrO_some,ptr]))
     go_roundw
     case rel=>exact ⟨i+1,x,by omega,by go_num,rfl,hx,by rw[htk,hxn],trivial⟩
     case measure=>simp [RowKit.intOf];omega
  · obtain rfl:i=l.length:=by omega
    rw[List.take_length] at hn
    have hg:Hid (getT l T.L=some e):=hid (by rw[←hn];exact getT_of H.out.srt he)
    unfold ptr
    go_wp2
    go_ret
    rw[hg.out]
    exact⟨rfl,rfl⟩
theorem still_any (B:Nat) (w:World) (r:Nat) (T:Tr) (h:TreeAt B w r T):
 Calls Tryz.prog 62 #[ptr r] w fun e w'=>e= .returned (.bool (decide (1099511627776≤T.clock)))∧w'=w:=by
 obtain⟨e0,he0,hq0⟩:=h.root
 have c1:w.cell? ⟨r,1,none⟩=some (.int .i64 (T.clock:Int)):=cell_of_heap hq0
 have hd:decide ((1099511627776:Int)≤(T.clock:Int))=decide (1099511627776≤T.clock):=by rw[decide_eq_decide];omega
 unfold ptr at*
 clear he0 hq0 h
 go_enter Tryz.func62,Tryz.ntmps62
 go_wp2
 go_ret
 first|exact⟨rfl,rfl⟩|(rw[hd];exact⟨rfl,rfl⟩)
end Go.Proofs.YtnmejonfdfdegaaGreatDoor.Sr
namespace Go.Proofs.YtnmejonfdfdegaaGreatDoor.St
open Go.RowKit Rf Rd Go.Proofs.YtnmejonfdfdegaaGreatDoor.Nm
def r1 (R:List UInt8):List UInt8:=txR 65536 R
def r2 (R:List UInt8):List UInt8:=tkR 1 (r1 R)
def r3 (R:List UInt8):List UInt8:=shR (r2 R)
def r4 (R:List UInt8):List UInt8:=shR (r3 R)
def r5 (R:List UInt8):List UInt8:=shR (r4 R)
end Go.Proofs.YtnmejonfdfdegaaGreatDoor.St
namespace Go.Proofs.YtnmejonfdfdegaaGreatDoor.Sr
open Go.RowKit Go.Maps Go.WideMaps Rf Go.Proofs.YtnmejonfdfdegaaGreatDoor.Nm St
open Lib (hid)
theorem splitL_chk {p:List UInt8} {x:List UInt8} (h:x∈splitL p):chk x=true:=by
 rw[splitL] at h
 cases hs:splitP p with
 |none=>rw [hs] at h;cases h
 |some l=>
  rw[hs] at h
  change x∈l at h
  rw[splitP] at hs
  split at hs
  · obtain rfl:=Option.some.inj hs;cases h
  · split at hs
    · next hc=>
      obtain rfl:=Option.some.inj hs
      simp only[Bool.and_eq_true] at hc
      exact List.all_eq_true.1 hc.2 x h
    · cases hs
theorem chk_le {x:List UInt8} (h:chk x=true):x.length≤255∧x≠[]:=by
 refine⟨?_,?_⟩
 · simp only[chk,lenFine,Bool.and_eq_true,decide_eq_true_eq] at h
   exact h.1.1.1.2
 · rintro rfl
   exact absurd h (by decide)
theorem splitL_short (p:List UInt8):(splitL p).length≤1000000:=by
 rw[splitL]
 cases hs:splitP p with
 |none=>simp
 |some l=>
  show l.length≤_
  rw[splitP] at hs
  split at hs
  · obtain rfl:=Option.some.inj hs;simp
  · split at hs
    · next hc=>
      obtain rfl:=Option.some.inj hs
      simp only[Bool.and_eq_true,decide_eq_true_eq] at hc
      rw[parts_count]
      have:(p.drop 1).count 47≤p.count 47:=List.Sublist.count_le _ (List.drop_sublist 1 p)
      omega
    · cases hs
structure PathAt (B:Nat) (w:World) (v:Value) (l:PN):Prop where
 row:w.ownsRow B 9 1 v l.length (l.map sv)
 len:∀ x∈l,x.length≤maxLen
theorem PathAt.strs {B:Nat} {w:World} {v:Value} {l:PN} (h:PathAt B w v l):StrsAt w v l:=by
 obtain⟨a,c,rfl⟩:=rowS_slice h.row
 have hm:l.length≤maxLen:=by
  rcases h.row with⟨_,⟨_,h0⟩|⟨g,cap,cur,_,_,_,h1,h2,_⟩⟩
  · rw[h0];exact Nat.zero_le _
  · exact Nat.le_trans h1 h2
 refine⟨a,c,rfl,hm,h.len,fun hne=>?_⟩
 obtain⟨g,cap,hv,hg,_,_,hc⟩:=rowS_form h.row (by intro h0;exact hne (List.length_eq_zero_iff.1 h0))
 injection hv with e1 e2 e3
 subst e1
 refine⟨g,0,rfl,hg,fun i p hp=>?_⟩
 rw[Nat.zero_add]
 exact hc i _ (by rw[List.getElem?_map,hp];rfl)
theorem PathAt.below {B:Nat} {w w':World} {v:Value} {l:PN} (h:PathAt B w v l) (hb:Below w.heap.size w w'):PathAt B w' v l:=
 ⟨rowS_kept h.row (fun x _ hl=>hb.block x hl),h.len⟩
theorem PathAt.kept {B:Nat} {w w':World} {v:Value} {l:PN} (h:PathAt B w v l) (hb:∀ x∈ob v,w'.heap[x]? =w.heap[x]?):PathAt B w' v l:=
 ⟨rowS_kept h.row (fun x hx _=>hb x hx),h.len⟩
theorem PathAt.front {B:Nat} {w:World} {v:Value} {l:PN} (h:PathAt B w v l) (hne:l≠[]):∃ g c,v= .slice (some ⟨g,0,none⟩) l.length c∧l.length≤c∧c≤maxLen∧StrsAt w (.slice (some ⟨g,0,none⟩) (l.length - 1) c) l.dropLast:=by
 have hs:=h.strs
 have h0:l.length≠0:=fun h0=>hne (List.length_eq_zero_iff.1 h0)
 obtain⟨g,cap,hv,hg,_,hc,hcell⟩:=rowS_form h.row h0
 have hcm:cap≤maxLen:=by
  rcases h.row with⟨_,⟨_,h0'⟩|⟨g',cap',cur,hv',_,_,h1,h2,_⟩⟩
  · exact absurd h0' h0
  · rw[hv] at hv';injection hv' with e1 e2 e3;rw[e3];exact h2
 refine⟨g,cap,hv,hc,hcm,some ⟨g,0,none⟩,cap,by rw[List.length_dropLast],by rw[List.length_dropLast];omega,fun x hx=>h.len x (List.dropLast_subset _ hx),fun _=>⟨g,0,rfl,hg,fun i p hp=>?_⟩⟩
 rw[Nat.zero_add]
 refine hcell i _ ?_
 have hi:=(List.getElem?_eq_some_iff.1 hp).1
 rw[List.length_dropLast] at hi
 rw[List.getElem?_map]
 rw[List.getElem?_dropLast] at hp
 rw[if_pos hi] at hp
 rw[hp];rfl
def findE (p:List UInt8) (L:List TE):Int:=if splitE p=0 then(if (getT (splitL p) L).isSome then 0 else 6) else 10
def findN (p:List UInt8) (L:List TE):Option TE:=if splitE p=0 then getT (splitL p) L else none
def FindPost (w:World) (p:List UInt8) (L:List TE) (e:Ending) (w':World):Prop:=
 ∃ v,e= .returned (.tuple #[ptrO ((findN p L).map TE.p),v,.int .i64 (findE p L)])∧PathAt w.heap.size w' v (splitL p)∧Below w.heap.size w w'
theorem splitE_cases (p:List UInt8):splitE p=0∨(splitE p=10∧splitL p=[]):=by
 rw[splitE,splitL]
 cases splitP p
 · exact .inr ⟨rfl,rfl⟩
 · exact .inl rfl
theorem find_any (B:Nat) (w:World) (r:Nat) (T:Tr) (p:List UInt8) (hp:p.length≤4611686018427387904) (h:TreeAt B w r T):
 Calls Tryz.prog 34 #[ptr r,.string ⟨p.toArray⟩] w (FindPost w p T.L):=by
 have SP:=split_any ⟨p.toArray⟩ w hp
 rw[show (⟨p.toArray⟩:ByteArray).data.toList=p from by simp] at SP
 have SP:=hid SP
 have H:=hid h
 clear h
 unfold ptr at*
 go_enter Tryz.func34,Tryz.ntmps34
 go_wp2_with fail
 refine SP.out.mono ?_
 rintro ex w1 ⟨v,rfl,hr1,hb1⟩
 have HP:Hid (PathAt w.heap.size w1 v (splitL p)):=hid ⟨hr1,fun x hx=>by have:=(chk_le (splitL_chk hx)).1;unfold maxLen;omega⟩
 have HB:=hid hb1
 clear hr1 hb1 SP
 rcases splitE_cases p with h0|⟨h0,hl⟩
 · have HN:Hid (findN p T.L=getT (splitL p) T.L):=hid (by rw[findN,if_pos h0])
   have HE:Hid (findE p T.L=if (getT (splitL p) T.L).isSome then 0 else 6):=hid (by rw[findE,if_pos h0])
   have LK:=look_any B w1 r T v (splitL p) HP.out.strs (H.out.below HB.out)
   obtain⟨a,c,rfl⟩:=rowS_slice HP.out.row
   rw[h0]
   cases hg:getT (splitL p) T.L with
   |none=>
    rw[hg] at LK
    have LK:=hid LK
    unfold ptr ptrO at LK
    have HN2:Hid (findN p T.L=none):=hid (HN.out.trans hg)
    have HE2:Hid (findE p T.L=6):=hid (by rw[HE.out,hg];rfl)
    clear hg HN HE h0
    go_wp2_with fail
    refine LK.out.mono ?_
    rintro ex w2 ⟨rfl,hw2⟩
    obtain rfl:w1=w2:=hw2.symm
    go_wp2
    go_ret3
    refine⟨_,by rw[HN2.out,HE2.out];rfl,HP.out,HB.out⟩
   |some e=>
    rw[hg] at LK
    have LK:=hid LK
    unfold ptr ptrO at LK
    have HN2:Hid (findN p T.L=some e):=hid (HN.out.trans hg)
    have HE2:Hid (findE p T.L=0):=hid (by rw[HE.out,hg];rfl)
    clear hg HN HE h0
    go_wp2_with fail
    refine LK.out.mono ?_
    rintro ex w2 ⟨rfl,hw2⟩
    obtain rfl:w1=w2:=hw2.symm
    go_wp2
    go_ret3
    refine⟨_,by rw[HN2.out,HE2.out];rfl,HP.out,HB.out⟩
 · have HN:Hid (findN p T.L=none):=hid (by rw[findN,if_neg (by rw[h0];decide)])
   have HE:Hid (findE p T.L=10):=hid (by rw[findE,if_neg (by rw[h0];decide)])
   rw[h0]
   clear h0
   go_wp2
   go_ret3
   refine⟨_,by rw[HN.out,HE.out];rfl,⟨by rw[hl];exact⟨rfl,.inl ⟨rfl,rfl⟩⟩,by rw[hl];simp⟩,HB.out⟩
def abvE (l:PN) (L:List TE):Int:=match getT l.dropLast L with|none=>6|some u=>if u.at_.node=2 then 0 else 11
def abvN (l:PN) (L:List TE):Option TE:=match getT l.dropLast L with|none=>none|some u=>if u.at_.node=2 then some u else none
theorem above_any (B B':Nat) (w:World) (r:Nat) (T:Tr) (v:Value) (l:PN) (hne:l≠[]) (hl:l.length≤1000000) (hv:PathAt B' w v l) (h:TreeAt B w r T):
 Calls Tryz.prog 65 #[ptr r,v] w fun e w'=>e= .returned (.tuple #[ptrO ((abvN l T.L).map TE.p),.int .i64 (abvE l T.L)])∧w'=w:=by
 obtain⟨g,c,rfl,hlc,hcm,hs⟩:=hv.front hne
 have LK:=look_any B w r T _ l.dropLast hs h
 have hn0:(1:Int)≤(l.length:Int):=by have:=List.length_pos_iff.2 hne;omega
 have hsub:((l.length - 1:Nat):Int)=(l.length:Int) - 1:=by omega
 rw[abvN,abvE]
 unfold ptr ptrO at*
 unfold maxLen at hcm
 have H:=hid h
 have hi1:(l.length:Int) - 1≤(c:Int):=by omega
 have hi0:(0:Int)≤(l.length:Int) - 1:=by omega
 have hwr:IntKind.i64.wrap ((l.length:Int) - 1)=(l.length:Int) - 1:=by rw[IntKind.wrap_i64];omega
 have htn:((l.length:Int) - 1).toNat=l.length - 1:=by omega
 cases hg:getT l.dropLast T.L with
 |none=>
  rw[hg] at LK
  have LK:=hid LK
  clear hg hs hv h
  go_enter Tryz.func65,Tryz.ntmps65
  go_wp2_with fail
  refine LK.out.mono ?_
  rintro ex w2 ⟨rfl,hw2⟩
  obtain rfl:w=w2:=hw2.symm
  go_wp2
  go_ret2
  exact⟨rfl,rfl⟩
 |some u=>
  rw[hg] at LK
  have LK:=hid LK
  obtain⟨hu,_⟩:=getT_nm hg
  have c2:w.cell? ⟨u.p,2,none⟩=some (.int .u8 (u.at_.node:Int)):=cell_of_heap (h.node u hu).cells
  clear hg hs hv h
  dsimp only
  by_cases h2:u.at_.node=2
  · rw[if_pos h2,if_pos h2]
    rw[h2] at c2
    go_enter Tryz.func65,Tryz.ntmps65
    go_wp2_with fail
    refine LK.out.mono ?_
    rintro ex w2 ⟨rfl,hw2⟩
    obtain rfl:w=w2:=hw2.symm
    go_wp2
    go_ret2
    exact⟨rfl,rfl⟩
  · rw[if_neg h2,if_neg h2]
    have hb:(((u.at_.node:Nat):Int)==2)=false:=by rw[beq_eq_false_iff_ne];omega
    have hb2:(((u.at_.node:Nat):Int) !=2)=true:=by rw[bne,hb];rfl
    go_enter Tryz.func65,Tryz.ntmps65
    go_wp2_with fail
    refine LK.out.mono ?_
    rintro ex w2 ⟨rfl,hw2⟩
    obtain rfl:w=w2:=hw2.symm
    go_wp2
    go_ret2
    exact⟨rfl,rfl⟩
def updT (e':TE) (L:List TE):List TE:=L.map fun x=>if x.p=e'.p then e' else x
theorem flat_inj {L:List TE} (h:(ownL L).Nodup) {a b:TE} (ha:a∈L) (hb:b∈L) {x:Nat} (hx:x∈ownE a) (hy:x∈ownE b):a=b:=by
 induction L with
 |nil=>cases ha
 |cons y r ih=>
  rw[ownL,List.flatMap_cons,List.nodup_append] at h
  obtain⟨_,h2,h3⟩:=h
  rcases List.mem_cons.1 ha with ha|ha <;> rcases List.mem_cons.1 hb with hb|hb
  · rw[ha,hb]
  · rw[ha] at hx;exact absurd rfl (h3 x hx x (List.mem_flatMap.2 ⟨b,hb,hy⟩))
  · rw[hb] at hy;exact absurd rfl (h3 x hy x (List.mem_flatMap.2 ⟨a,ha,hx⟩))
  · exact ih h2 ha hb
theorem own_nodE {L:List TE} (h:(ownL L).Nodup) {x:TE} (hx:x∈L):(ownE x).Nodup:=by
 induction L with
 |nil=>cases hx
 |cons y r ih=>
  rw[ownL,List.flatMap_cons,List.nodup_append] at h
  rcases List.mem_cons.1 hx with hx|hx
  · rw[hx];exact h.1
  · exact ih h.2.1 hx
theorem TreeAt.own_nod {B:Nat} {w:World} {r:Nat} {T:Tr} (h:TreeAt B w r T):(ownL T.L).Nodup:=(List.nodup_cons.1 h.nod).2
theorem TreeAt.p_inj {B:Nat} {w:World} {r:Nat} {T:Tr} (h:TreeAt B w r T) {a b:TE} (ha:a∈T.L) (hb:b∈T.L) (hp:a.p=b.p):a=b:=
 flat_inj h.own_nod ha hb (x:=a.p) (by simp[ownE]) (by simp[ownE,hp])
theorem TreeAt.r_own {B:Nat} {w:World} {r:Nat} {T:Tr} (h:TreeAt B w r T):r ∉ ownL T.L:=(List.nodup_cons.1 h.nod).1
theorem updT_facts {L:List TE} {e e':TE} (hinj:∀ x∈L,x.p=e.p→x=e) (hn:e'.nm=e.nm) (hp:e'.p=e.p) (hm:e'.m=e.m):
 (∀ x∈L,((if x.p=e'.p then e' else x):TE).nm=x.nm∧((if x.p=e'.p then e' else x):TE).p=x.p∧((if x.p=e'.p then e' else x):TE).m=x.m):=by
 intro x hx
 split
 · next h=>
   have:=hinj x hx (h.trans hp)
   subst this
   exact⟨hn,hp,hm⟩
 · exact⟨rfl,rfl,rfl⟩
theorem ownL_map {L:List TE} {f:TE→TE} (h:∀ x∈L,(f x).nm=x.nm∧(f x).p=x.p∧(f x).m=x.m):ownL (L.map f)=ownL L:=by
 induction L with
 |nil=>rfl
 |cons y r ih=>
  have h1:=h y (by simp)
  have ih2:=ih (fun x hx=>h x (List.mem_cons_of_mem _ hx))
  unfold ownL at ih2 ⊢
  rw[List.map_cons,List.flatMap_cons,ih2,List.flatMap_cons,ownE,ownE,h1.2.1,h1.2.2]
theorem srtT_map {L:List TE} {f:TE→TE} (hs:SrtT L) (h:∀ x∈L,(f x).nm=x.nm∧(f x).p=x.p∧(f x).m=x.m):SrtT (L.map f):=by
 rw[SrtT,List.pairwise_map]
 refine hs.imp_of_mem (fun {a b} ha hb hab=>?_)
 rw[(h a ha).1,(h b hb).1];exact hab
theorem getT_map {L:List TE} {f:TE→TE} (h:∀ x∈L,(f x).nm=x.nm) (n:PN):getT n (L.map f)=(getT n L).map f:=by
 rw[getT,List.find?_map,getT]
 congr 1
 induction L with
 |nil=>rfl
 |cons y r ih=>
  rw[List.find?_cons,List.find?_cons,ih (fun x hx=>h x (List.mem_cons_of_mem _ hx))]
  rw[Function.comp_apply,h y (by simp)]
theorem getT_upd {L:List TE} {e e':TE} (hinj:∀ x∈L,x.p=e.p→x=e) (hn:e'.nm=e.nm) (hp:e'.p=e.p) (hm:e'.m=e.m) (n:PN):getT n (updT e' L)=(getT n L).map fun x=>if x.p=e'.p then e' else x:=
 getT_map (fun x hx=>(updT_facts hinj hn hp hm x hx).1) n
theorem TreeAt.put {B:Nat} {w w':World} {r:Nat} {T:Tr} (h:TreeAt B w r T) {e e':TE} (he:e∈T.L) (hn:e'.nm=e.nm) (hp:e'.p=e.p) (hm:e'.m=e.m) (hk:e'.at_.node=2 ↔ e'.m≠none)
 (hc:w'.heap[e.p]? =some (.cells e'.cells.toArray NdT)) (hxs:XsAt w' e'.xv e'.at_.xs) (hxo:∀ b∈xob e'.at_.xs e'.xv,b ∉ r::ownL T.L∧B≤b)
 (hoth:∀ b∈r::(ownL T.L++xobL T.L),b≠e.p→w'.heap[b]? =w.heap[b]?) (hs:w.heap.size≤w'.heap.size):TreeAt B w' r {T with L:=updT e' T.L}:=by
 have hinj:∀ x∈T.L,x.p=e.p→x=e:=fun x hx hxp=>h.p_inj hx he hxp
 have hf:=updT_facts hinj hn hp hm
 have hown:ownL (updT e' T.L)=ownL T.L:=ownL_map hf
 have hxob:∀ b∈xobL (updT e' T.L),b∈xobL T.L∨b∈xob e'.at_.xs e'.xv:=by
  intro b hb
  obtain⟨x,hx,hxb⟩:=List.mem_flatMap.1 hb
  obtain⟨y,hy,rfl⟩:=List.mem_map.1 hx
  split at hxb
  · exact .inr hxb
  · exact .inl (List.mem_flatMap.2 ⟨y,hy,hxb⟩)
 have hkid:∀ n,kidsT (updT e' T.L) n=kidsT T.L n:=kidsT_map (fun x hx=>(hf x hx).1) (fun x hx=>(hf x hx).2.1)
 have hne:∀ x∈T.L,¬ x.p=e'.p→∀ b∈ownE x++xob x.at_.xs x.xv,b≠e.p:=by
  intro x hx hxp b hb hbe
  subst hbe
  rcases List.mem_append.1 hb with hb|hb
  · exact hxp ((flat_inj h.own_nod hx he hb (by simp[ownE])) ▸ hp.symm)
  · exact h.xoff _ (List.mem_flatMap.2 ⟨x,hx,hb⟩) (List.mem_cons_of_mem _ (ownL_mem he))
 have hin:∀ x∈T.L,∀ b∈ownE x++xob x.at_.xs x.xv,b∈r::(ownL T.L++xobL T.L):=by
  intro x hx b hb
  rw[List.mem_cons,List.mem_append]
  rcases List.mem_append.1 hb with hb|hb
  · exact .inr (.inl (List.mem_flatMap.2 ⟨x,hx,hb⟩))
  · exact .inr (.inr (List.mem_flatMap.2 ⟨x,hx,hb⟩))
 refine⟨?_,fun x hx=>?_,?_,fun b hb=>?_,fun b hb=>?_,srtT_map h.srt hf,fun x hx n s hxn=>?_,fun x hx=>?_⟩
 · obtain⟨e0,h1,h2⟩:=h.root
   refine⟨_,by rw[getT_upd hinj hn hp hm,h1];rfl,?_⟩
   have:r≠e.p:=fun hr=>h.r_own (hr ▸ ownL_mem he)
   rw[(hf e0 (getT_nm h1).1).2.1]
   exact(hoth r (by simp) this).trans h2
 · obtain⟨y,hy,rfl⟩:=List.mem_map.1 hx
   by_cases hyp:y.p=e'.p
   · rw[if_pos hyp]
     have:=hinj y hy (hyp.trans hp)
     subst this
     refine⟨by rw[hp];exact hc,fun b hb=>?_,hxs⟩
     rw[hkid,hn]
     refine ownsMap_block ((h.node y hy).kids b (hm ▸ hb)) (hoth b (hin y hy b (by simp[ownE,←hm,hb])) ?_)
     rintro rfl
     have hnd:(ownE y).Nodup:=own_nodE h.own_nod hy
     rw[ownE,List.nodup_cons] at hnd
     exact hnd.1 (by rw[←hm,hb];simp)
   · rw[if_neg hyp]
     have:=(h.node y hy).kept hs (fun b hb=>hoth b (hin y hy b hb) (hne y hy hyp b hb))
     exact⟨this.cells,fun b hb=>by rw[hkid];exact this.kids b hb,this.xs⟩
 · show(r::ownL (updT e' T.L)).Nodup
   rw[hown];exact h.nod
 · show b ∉ r::ownL (updT e' T.L)
   rw[hown]
   rcases hxob b hb with hb|hb
   · exact h.xoff b hb
   · exact(hxo b hb).1
 · rw[List.mem_cons,List.mem_append] at hb
   rcases hb with rfl|hb|hb
   · exact h.base _ (by simp)
   · have hb:b∈ownL (updT e' T.L):=hb
     rw[hown] at hb
     exact h.base b (by simp[hb])
   · rcases hxob b hb with hb|hb
     · exact h.base b (by simp[hb])
     · exact(hxo b hb).2
 · obtain⟨y,hy,rfl⟩:=List.mem_map.1 hx
   rw[(hf y hy).1] at hxn
   obtain⟨u,hu,h1,h2⟩:=h.par y hy n s hxn
   exact⟨_,List.mem_map.2 ⟨u,hu,rfl⟩,by rw[(hf u hu).1];exact h1,by rw[(hf u hu).2.2];exact h2⟩
 · obtain⟨y,hy,rfl⟩:=List.mem_map.1 hx
   split
   · exact hk
   · exact h.kind y hy
theorem TreeAt.head {B:Nat} {w w':World} {r:Nat} {T:Tr} (h:TreeAt B w r T) {c m n:Nat} {e:TE} (he:getT [] T.L=some e)
 (hc:w'.heap[r]? =some (.cells #[ptr e.p,.int .i64 (c:Int),.int .u64 (m:Int),.int .i64 (n:Int)] TrT))
 (hoth:∀ b∈ownL T.L++xobL T.L,w'.heap[b]? =w.heap[b]?) (hs:w.heap.size≤w'.heap.size):TreeAt B w' r {T with clock:=c,most:=m,reads:=n}:=by
 refine⟨⟨e,he,hc⟩,fun x hx=>(h.node x hx).kept hs (fun b hb=>hoth b ?_),h.nod,h.xoff,h.base,h.srt,h.par,h.kind⟩
 rw[List.mem_append]
 rcases List.mem_append.1 hb with hb|hb
 · exact .inl (List.mem_flatMap.2 ⟨x,hx,hb⟩)
 · exact .inr (List.mem_flatMap.2 ⟨x,hx,hb⟩)
theorem TreeAt.turn {B:Nat} {w w':World} {r:Nat} {T:Tr} {X:List Nat} (h:TreeAt B w r T) (ht:Turn X w w') (hX:∀ b∈r::(ownL T.L++xobL T.L),b ∉ X):TreeAt B w' r T:=
 h.kept ht.size (fun b hb=>ht.block b (h.lt b hb) (hX b hb))
theorem TreeAt.setNode {B:Nat} {w:World} {r:Nat} {T:Tr} (h:TreeAt B w r T) {e e':TE} {j:Nat} {v:Value} (he:e∈T.L) (hn:e'.nm=e.nm) (hp:e'.p=e.p) (hm:e'.m=e.m) (hx:e'.at_.xs=e.at_.xs) (hxv:e'.xv=e.xv) (hno:e'.at_.node=e.at_.node)
 (hc:e.cells.toArray.setIfInBounds j v=e'.cells.toArray):TreeAt B (w.setCell ⟨e.p,j,none⟩ v) r {T with L:=updT e' T.L}:=by
 have hxb:∀ b∈xob e.at_.xs e.xv,b∈xobL T.L:=fun b hb=>List.mem_flatMap.2 ⟨e,he,hb⟩
 have hxp:∀ b∈xob e.at_.xs e.xv,b≠e.p:=fun b hb hbe=>h.xoff b (hxb b hb) (hbe ▸ List.mem_cons_of_mem _ (ownL_mem he))
 refine h.put he hn hp hm (by rw[hno,hm];exact h.kind e he) ?_ ?_ (fun b hb=>?_) (fun b hb hbe=>Below.heap_setCell _ _ _ _ hbe) (Turn.refl [e.p] w|>.setCell (.inl (by simp)) _).size
 · rw[setCell_heap _ _ _ _ _ _ (h.node e he).cells,hc]
 · rw[hx,hxv]
   exact(h.node e he).xs.kept (Turn.refl [e.p] w|>.setCell (p:=⟨e.p,j,none⟩) (.inl (by simp)) v).size (fun b hb=>Below.heap_setCell _ _ _ _ (hxp b hb))
 · rw[hx,hxv] at hb
   exact⟨h.xoff b (hxb b hb),h.base b (by have:=hxb b hb;simp[this])⟩
def tick1 (q:Nat) (c:Int) (L:List TE):List TE:=L.map fun x=>if x.p=q then {x with tick:=c} else x
def tickT (qs:List Nat) (c:Int) (L:List TE):List TE:=qs.foldl (fun L q=>tick1 q c L) L
theorem tick1_fine (q:Nat) (c:Int) (L:List TE):∀ x∈L,((if x.p=q then {x with tick:=c} else x):TE).nm=x.nm∧((if x.p=q then {x with tick:=c} else x):TE).p=x.p∧((if x.p=q then {x with tick:=c} else x):TE).m=x.m:=by
 intro x _;split <;> exact⟨rfl,rfl,rfl⟩
theorem tick1_upd {L:List TE} {e:TE} (hinj:∀ x∈L,x.p=e.p→x=e) (c:Int):updT {e with tick:=c} L=tick1 e.p c L:=by
 rw[updT,tick1]
 refine List.map_congr_left (fun x hx=>?_)
 show(if x.p=e.p then _ else x)=_
 by_cases h:x.p=e.p
 · rw[if_pos h,if_pos h,hinj x hx h]
 · rw[if_neg h,if_neg h]
theorem own_tick1 (q:Nat) (c:Int) (L:List TE):ownL (tick1 q c L)=ownL L:=ownL_map (tick1_fine q c L)
theorem own_tickT (c:Int):∀ (qs:List Nat) (L:List TE),ownL (tickT qs c L)=ownL L
 |[],_=>rfl
 |q::r,L=>by
  show ownL (tickT r c (tick1 q c L))=_
  rw[own_tickT c r,own_tick1]
theorem p_tickT (c:Int):∀ (qs:List Nat) (L:List TE) {q:Nat},(∃ e∈L,e.p=q)→∃ e∈tickT qs c L,e.p=q
 |[],_,_,h=>h
 |a::r,L,q,⟨e,he,hq⟩=>p_tickT c r (tick1 a c L) ⟨_,List.mem_map.2 ⟨e,he,rfl⟩,by rw[(tick1_fine a c L e he).2.1];exact hq⟩
def PtrsAt (w:World) (v:Value) (qs:List Nat):Prop:=
 ∃ a cap,v= .slice a qs.length cap∧qs.length≤100∧(qs≠[]→∃ b o,a=some ⟨b,o,none⟩∧b < w.heap.size∧∀ (i:Nat) q,qs[i]? =some q→w.cell? ⟨b,o+i,none⟩=some (ptr q))
theorem touch_any (B:Nat) (w:World) (r:Nat) (T:Tr) (v:Value) (qs:List Nat) (hv:PtrsAt w v qs) (ho:∀ b o n c,v= .slice (some ⟨b,o,none⟩) n c→b ∉ r::ownL T.L) (hq:∀ q∈qs,∃ e∈T.L,e.p=q) (hc:T.clock < 4611686018427387904) (h:TreeAt B w r T):
 Calls Tryz.prog 63 #[ptr r,v] w fun e w'=>e= .returned (.tuple #[])∧TreeAt B w' r {T with clock:=T.clock+1,L:=tickT qs ((T.clock+1:Nat):Int) T.L}∧Turn (r::ownL T.L) w w':=by
 obtain⟨va,vc,rfl,hlm,hcell⟩:=hv
 obtain⟨e0,he0,hq0⟩:=h.root
 have c1:w.cell? ⟨r,1,none⟩=some (.int .i64 (T.clock:Int)):=cell_of_heap hq0
 have f1:w.frozen? ⟨r,1,none⟩=false:=frozen_of_heap hq0
 have HC:=hid hcell;have HQ:=hid hq;have HO:=hid ho
 obtain⟨c,hcc⟩:∃ c:Int,c=((T.clock+1:Nat):Int):=⟨_,rfl⟩
 have hcc2:c=(T.clock:Int)+1:=by omega
 have h1:TreeAt B (w.setCell ⟨r,1,none⟩ (.int .i64 ((T.clock:Int)+1))) r {T with clock:=T.clock+1}:=by
  refine h.head he0 (e:=e0) (c:=T.clock+1) (m:=T.most) (n:=T.reads) ?_ (fun b hb=>Below.heap_setCell _ _ _ _ ?_) (Turn.refl [r] w|>.setCell (p:=⟨r,1,none⟩) (.inl (by simp)) _).size
  · rw[setCell_heap _ _ _ _ _ _ hq0];rfl
  · rintro hbr
    have hbr:b=r:=hbr
    subst hbr
    rcases List.mem_append.1 hb with hb|hb
    · exact h.r_own hb
    · exact h.xoff b hb (by simp)
 have HH1:Hid (TreeAt B (w.setCell ⟨r,1,none⟩ (.int .i64 ((T.clock:Int)+1))) r {T with clock:=T.clock+1,L:=tickT (qs.take 0) c T.L}):=hid h1
 have HT1:Hid (Turn (r::ownL T.L) w (w.setCell ⟨r,1,none⟩ (.int .i64 ((T.clock:Int)+1)))):=hid ((Turn.refl (r::ownL T.L) w).setCell (.inl (by simp)) _)
 rw[←hcc]
 unfold ptr at*
 clear hq0 he0 hcell h h1 hq ho hcc
 have HCC:=hid hcc2
 clear hcc2
 go_enter Tryz.func63,Tryz.ntmps63
 go_wp2
 go_loopw [15] (fun v15 wr=>∃ i:Nat,i≤qs.length∧v15= .int .i64 (i:Int)∧Hid (TreeAt B wr r {T with clock:=T.clock+1,L:=tickT (qs.take i) c T.L})∧Hid (Turn (r::ownL T.L) w wr)) (fun v15 _=>qs.length - (RowKit.intOf v15).toNat)
 case atStart=>exact ⟨0,by omega,rfl,HH1,HT1⟩
 case round=>
  obtain⟨i,hi,rfl,HA,HT⟩:=hrel
  by_cases hil:(i:Int) < (qs.length:Int)
  · have hi2:i < qs.length:=by omega
    obtain⟨q,hq⟩:∃ q,qs[i]? =some q:=⟨_,List.getElem?_eq_getElem hi2⟩
    obtain⟨b,o,rfl,hb,hcl⟩:=HC.out (fun h=>by rw[h] at hi2;cases hi2)
    obtain⟨e,he,rfl⟩:=p_tickT c (qs.take i) T.L (HQ.out q (List.mem_of_getElem? hq))
    have cq:wr.cell? ⟨b,o+i,none⟩=some (.pointer (some ⟨e.p,0,none⟩)):=(World.cell?_of_block (a:=⟨b,o+i,none⟩) (HT.out.block b hb (HO.out b o _ _ rfl))).trans (hcl i _ hq)
    obtain⟨er,her,hqr⟩:=HA.out.root
    have cr:wr.cell? ⟨r,1,none⟩=some (.int .i64 ((T.clock:Int)+1)):=cell_of_heap hqr
    have ce:=(HA.out.node e he).cells
    have fe:wr.frozen? ⟨e.p,1,none⟩=false:=frozen_of_heap ce
    have cx:wr.cell? ⟨e.p,1,none⟩=some (.int .i64 e.tick):=cell_of_heap ce
    have HN:Hid (TreeAt B (wr.setCell ⟨e.p,1,none⟩ (.int .i64 ((T.clock:Int)+1))) r {T with clock:=T.clock+1,L:=tickT (qs.take (i+1)) c T.L}):=hid (by
     have:=HA.out.setNode (e:=e) (e':={e with tick:=c}) (j:=1) (v:= .int .i64 c) he rfl rfl rfl rfl rfl rfl rfl
     rw[←HCC.out]
     have e1:tickT (qs.take (i+1)) c T.L=updT {e with tick:=c} (tickT (qs.take i) c T.L):=by
      rw[tick1_upd (fun x hx hxp=>HA.out.p_inj hx he hxp),List.take_add_one,hq,tickT,List.foldl_append];rfl
     rw[e1]
     exact this)
    have hqo:e.p∈ownL T.L:=by
     have:=ownL_mem he
     have e2:ownL (tickT (qs.take i) c T.L)=ownL T.L:=own_tickT _ _ _
     rw[←e2];exact this
    have HTN:Hid (Turn (r::ownL T.L) w (wr.setCell ⟨e.p,1,none⟩ (.int .i64 ((T.clock:Int)+1)))):=hid (HT.out.setCell (.inl (by simp[hqo])) _)
    clear hcl hq he her hqr ce hqo
    go_wp2
    go_roundw
    case rel=>exact ⟨i+1,by omega,by go_num,HN,HTN⟩
    case measure=>simp [RowKit.intOf];omega
  · obtain rfl:i=qs.length:=by omega
    have HX:=HA.out
    rw[List.take_length] at HX
    have HX:=hid HX
    go_wp2
    exact bodyPost_end (results_none rfl _ _ _) rfl ⟨rfl,HX.out,HT.out⟩
def writeE (p d:List UInt8) (T:Tr):Int:=
 if splitE p≠0 then 10 else if 1048576 < d.length then 1 else match getT (splitL p) T.L with
  |none=>6
  |some n=>if n.at_.node≠1 then 11 else if 1099511627776≤T.clock then 3 else 0
def writeT (p d:List UInt8) (T:Tr):Tr:=
 if writeE p d T=0 then match getT (splitL p) T.L with
  |none=>T
  |some n=>{T with clock:=T.clock+1,L:=tickT [n.p] ((T.clock+1:Nat):Int) (updT {n with data:=d} T.L)}
 else T
def TreePost (B:Nat) (w:World) (r:Nat) (T T':Tr) (c:Int) (e:Ending) (w':World):Prop:=
 e= .returned (.int .i64 c)∧TreeAt B w' r T'∧Turn (r::ownL T.L) w w'
theorem treePost_same {B:Nat} {w w':World} {r:Nat} {T:Tr} {c:Int} {e:Ending} (h:TreeAt B w r T) (he:e= .returned (.int .i64 c)) (hb:Below w.heap.size w w'):TreePost B w r T T c e w':=
 ⟨he,h.below hb,Turn.of_below hb⟩
theorem write_any (B:Nat) (w:World) (r:Nat) (T:Tr) (p d:List UInt8) (hp:p.length≤4611686018427387904) (hd:d.length≤4611686018427387904) (h:TreeAt B w r T):
 Calls Tryz.prog 25 #[ptr r,.string ⟨p.toArray⟩,.string ⟨d.toArray⟩] w (TreePost B w r T (writeT p d T) (writeE p d T)):=by
 have FI:=hid (find_any B w r T p hp h)
 have H:=hid h
 have hds:(⟨d.toArray⟩:ByteArray).size=d.length:=rfl
 have HW:Hid (writeT p d T=if writeE p d T=0 then match getT (splitL p) T.L with
  |none=>T
  |some n=>{T with clock:=T.clock+1,L:=tickT [n.p] ((T.clock+1:Nat):Int) (updT {n with data:=d} T.L)}
  else T):=hid rfl
 have HE:Hid (writeE p d T=if splitE p≠0 then 10 else if 1048576 < d.length then 1 else match getT (splitL p) T.L with
  |none=>6
  |some n=>if n.at_.node≠1 then 11 else if 1099511627776≤T.clock then 3 else 0):=hid rfl
 generalize writeT p d T=T' at*
 generalize writeE p d T=c at*
 clear h
 unfold ptr at*
 go_enter Tryz.func25,Tryz.ntmps25
 go_wp2_with fail
 refine FI.out.mono ?_
 rintro ex w1 ⟨v,rfl,hp1,hb1⟩
 have HP:=hid hp1;have HB:=hid hb1
 obtain⟨va,vc,rfl⟩:=rowS_slice hp1.row
 clear FI hp1 hb1
 rw[findE,findN]
 rcases splitE_cases p with h0|⟨h0,_⟩
 case inr=>
  have hc:c=10:=by rw[HE.out,if_pos (by rw[h0];decide)]
  have HT:Hid (T'=T):=hid (by rw[HW.out,if_neg (by rw[hc];decide)])
  subst hc
  rw[if_neg (by rw[h0];decide),if_neg (by rw[h0];decide)]
  unfold ptrO
  clear h0 HE HW
  go_wp2
  go_ret
  rw[HT.out]
  exact treePost_same H.out rfl HB.out
 rw[if_pos h0,if_pos h0]
 by_cases hbig:1048576 < d.length
 · have hc:c=1:=by rw[HE.out,if_neg (by rw[h0];decide),if_pos hbig]
   have HT:Hid (T'=T):=hid (by rw[HW.out,if_neg (by rw[hc];decide)])
   have hbi:(1048576:Int) < (d.length:Int):=by omega
   subst hc
   clear h0 HE HW hbig
   cases hg:getT (splitL p) T.L with
   |none=>
    unfold ptrO
    clear hg
    go_wp2
    go_ret
    rw[HT.out]
    exact treePost_same H.out rfl HB.out
   |some n=>
    unfold ptrO
    clear hg
    go_wp2
    go_ret
    rw[HT.out]
    exact treePost_same H.out rfl HB.out
 have hbi:¬ (1048576:Int) < (d.length:Int):=by omega
 have HE1:Hid (c=match getT (splitL p) T.L with
  |none=>6
  |some n=>if n.at_.node≠1 then 11 else if 1099511627776≤T.clock then 3 else 0):=hid (by rw[HE.out,if_neg (by rw[h0];decide),if_neg hbig])
 clear HE hbig h0
 cases hg:getT (splitL p) T.L with
 |none=>
  have hc:c=6:=by rw[HE1.out,hg]
  have HT:Hid (T'=T):=hid (by rw[HW.out,if_neg (by rw[hc];decide)])
  subst hc
  unfold ptrO
  clear hg HE1 HW
  go_wp2
  go_ret
  rw[HT.out]
  exact treePost_same H.out rfl HB.out
 |some n=>
  have HE2:Hid (c=if n.at_.node≠1 then 11 else if 1099511627776≤T.clock then 3 else 0):=hid (by rw[HE1.out,hg])
  have HW2:Hid (T'=if c=0 then {T with clock:=T.clock+1,L:=tickT [n.p] ((T.clock+1:Nat):Int) (updT {n with data:=d} T.L)} else T):=hid (by rw[HW.out,hg])
  obtain⟨hn,_⟩:=getT_nm hg
  have HN:=hid hn
  have H1:=hid (H.out.below HB.out)
  have c2:w1.cell? ⟨n.p,2,none⟩=some (.int .u8 (n.at_.node:Int)):=cell_of_heap (H1.out.node n hn).cells
  clear hg HE1 HW hn
  unfold ptrO
  by_cases h1:n.at_.node=1
  case neg=>
   have hc:c=11:=by rw[HE2.out,if_pos h1]
   have HT:Hid (T'=T):=hid (by rw[HW2.out,if_neg (by rw[hc];decide)])
   subst hc
   have hb:(((n.at_.node:Nat):Int)==1)=false:=by rw[beq_eq_false_iff_ne];omega
   have hb2:(((n.at_.node:Nat):Int) !=1)=true:=by rw[bne,hb];rfl
   clear HE2 HW2 h1
   go_wp2
   go_ret
   rw[HT.out]
   exact treePost_same H.out rfl HB.out
  have HE3:Hid (c=if 1099511627776≤T.clock then 3 else 0):=hid (by rw[HE2.out,if_neg (by simpa using h1)])
  rw[h1] at c2
  have ST:=still_any B w1 r T H1.out
  unfold ptr at ST
  clear HE2 h1
  by_cases hst:1099511627776≤T.clock
  · have hc:c=3:=by rw[HE3.out,if_pos hst]
    have HT:Hid (T'=T):=hid (by rw[HW2.out,if_neg (by rw[hc];decide)])
    subst hc
    rw[decide_eq_true hst] at ST
    have ST:=hid ST
    clear HE3 HW2 hst
    go_wp2_with fail
    refine ST.out.mono ?_
    rintro ex w2 ⟨rfl,hw2⟩
    obtain rfl:w1=w2:=hw2.symm
    go_wp2
    go_ret
    rw[HT.out]
    exact treePost_same H.out rfl HB.out
  · have hc:c=0:=by rw[HE3.out,if_neg hst]
    have HT:Hid (T'={T with clock:=T.clock+1,L:=tickT [n.p] ((T.clock+1:Nat):Int) (updT {n with data:=d} T.L)}):=hid (by rw[HW2.out,if_pos hc])
    subst hc
    rw[decide_eq_false hst] at ST
    have ST:=hid ST
    have HCL:Hid (T.clock < 4611686018427387904):=hid (by omega)
    have cd:w1.cell? ⟨n.p,9,none⟩=some (.string ⟨n.data.toArray⟩):=cell_of_heap (H1.out.node n HN.out).cells
    have fd:w1.frozen? ⟨n.p,9,none⟩=false:=frozen_of_heap (H1.out.node n HN.out).cells
    have HNX:Hid (TreeAt B (w1.setCell ⟨n.p,9,none⟩ (.string ⟨d.toArray⟩)) r {T with L:=updT {n with data:=d} T.L}):=hid (H1.out.setNode (e':={n with data:=d}) HN.out rfl rfl rfl rfl rfl rfl rfl)
    have HTX:Hid (Turn (r::ownL T.L) w (w1.setCell ⟨n.p,9,none⟩ (.string ⟨d.toArray⟩))):=hid ((Turn.of_below HB.out).setCell (.inl (by have:=ownL_mem HN.out;simp[this])) _)
    have hown:Hid (ownL (updT {n with data:=d} T.L)=ownL T.L):=hid (ownL_map (updT_facts (fun x hx hxp=>H.out.p_inj hx HN.out hxp) rfl rfl rfl))
    have HPN:Hid (∃ e∈updT {n with data:=d} T.L,e.p=n.p):=hid ⟨_,List.mem_map.2 ⟨n,HN.out,rfl⟩,by rw[if_pos rfl]⟩
    clear HE3 HW2 hst
    go_wp2_with fail
    refine ST.out.mono ?_
    rintro ex w2 ⟨rfl,hw2⟩
    obtain rfl:w1=w2:=hw2.symm
    go_wp2_with fail
    obtain⟨W,hW⟩:∃ W,W=w1.setCell ⟨n.p,9,none⟩ (.string ⟨d.toArray⟩):=⟨_,rfl⟩
    have hWs:W.heap.size=w1.heap.size:=by rw[hW,World.size_setCell]
    rw[←hW] at HNX HTX ⊢
    rw[←hWs]
    refine(touch_any B _ r {T with L:=updT {n with data:=d} T.L} _ [n.p] ?_ ?_ ?_ HCL.out (HNX.out.below ((Below.refl _ _).alloc (Nat.le_refl _) _))).mono ?_
    · refine⟨some ⟨W.heap.size,0,none⟩,1,rfl,by simp,fun _=>⟨W.heap.size,0,rfl,by rw[one_size];omega,fun i q hq=>?_⟩⟩
      match i,hq with
      |0,hq=>
       obtain rfl:=Option.some.inj hq
       exact cell_of_heap (MapKept.heap_alloc W _).1
    · intro b o n' c' hv hb
      injection hv with e1 _ _
      injection e1 with e1
      injection e1 with e1 _ _
      subst e1
      have:=HNX.out.lt W.heap.size (by
       rw[List.mem_cons] at hb ⊢
       rcases hb with hb|hb
       · exact .inl hb
       · exact .inr (List.mem_append_left _ hb))
      omega
    · intro q hq
      rw[List.mem_singleton] at hq
      subst hq
      exact HPN.out
    · rintro ex w3 ⟨rfl,ht3,hu3⟩
      have HT3:=hid ht3;have HU3:=hid hu3
      clear ht3 hu3
      go_wp2
      go_ret
      rw[HT.out]
      refine⟨rfl,HT3.out,?_⟩
      have h5:=HU3.out
      rw[show ownL ({T with L:=updT {n with data:=d} T.L}:Tr).L=ownL T.L from hown.out] at h5
      have h6:=(HTX.out.alloc (Obj.cells #[ptr n.p] 74))
      exact h6.trans h5 (fun y hy=> .inl hy)
end Go.Proofs.YtnmejonfdfdegaaGreatDoor.Sr
namespace Go.Proofs.YtnmejonfdfdegaaGreatDoor.Sh
open Go.RowKit Go.Maps Rf
theorem store_new (w:World) (T:TypeId) (old cs:Array Value):((w.alloc (.cells old T)).setRow w.heap.size cs).heap[w.heap.size]? =some (.cells cs T)∧Below w.heap.size w ((w.alloc (.cells old T)).setRow w.heap.size cs):=by
 refine⟨setRow_heap _ _ _ _ _ _ (MapKept.heap_alloc w _).1,?_⟩
 refine((Below.refl _ w).alloc (Nat.le_refl _) (.cells old T)).trans ⟨rfl,rfl,rfl,by simp[World.setRow],fun k hk=>?_⟩
 exact setRow_other _ _ _ _ (by omega)
theorem setRow_size (w:World) (g:Nat) (cs:Array Value):(w.setRow g cs).heap.size=w.heap.size:=by simp[World.setRow]
theorem one_size (w:World) (A:Obj):(w.alloc A).heap.size=w.heap.size+1:=by show(w.heap.push _).size=_;simp
theorem at_alloc {w:World} {x:Nat} {o:Obj} (h:w.heap[x]? =some o) (A:Obj):(w.alloc A).heap[x]? =some o:=(Below.heap_alloc _ _ _ (lt_of_heap h)).trans h
theorem below_drewN (w:World) (n:Nat):Below w.heap.size w (w.drewN n):=(Below.refl _ _).trans ⟨rfl,rfl,rfl,Nat.le_of_eq (by rw[World.heap_drewN]),fun _ _=>by rw[World.heap_drewN]⟩
theorem Below.drewN {B:Nat} {w0 w:World} (h:Below B w0 w) (n:Nat):Below B w0 (w.drewN n):=h.trans ⟨rfl,rfl,rfl,Nat.le_of_eq (by rw[World.heap_drewN]),fun _ _=>by rw[World.heap_drewN]⟩
theorem range_block {w:World} {g:Nat} {cs:Array Value} {T:TypeId} (h:w.heap[g]? =some (.cells cs T)):w.rangeAt g 0 cs.toList:=fun j v hv=>by
 rw[Nat.zero_add,cell_of_heap h,←Array.getElem?_toList];exact hv
section
variable {P:Program} {ops:Array Oper} {rest:List Oper} {o:Oper} {a:Act} {w:World} {Q:Exit→Act→World→Prop}
theorem wpList_store_new {old:Array Value} {T:TypeId} {p:Nat} (hp:p=w.heap.size) (hgd:o.guard=none) (ty:TypeId) (x y:Operand) (ho:o.op= .store ty x y)
 (cs:Array Value) (hx:a.eval x= .pointer (some ⟨p,0,none⟩)) (hy:a.eval y= .agg cs) (hi:(P.info? ty).map (·.size)=some cs.size) (hold:old.size=cs.size) (h1:cs.all (·.oneCell')=true)
 (h:∀ w2:World,w2.heap[p]? =some (.cells cs T)→Below p w w2→w2.heap.size=p+1→wpList P ops Q rest (a.put o.dst undef) w2):
 wpList P ops Q (o::rest) a (w.alloc (.cells old T)):=by
 subst hp
 refine wpList_store_row hgd ty x y ho w.heap.size cs hx hy T old (MapKept.heap_alloc w _).1 hi hold h1 ?_
 obtain⟨a1,a2⟩:=store_new w T old cs
 exact h _ a1 a2 (by rw[setRow_size,one_size])
theorem wpList_store_at {old:Array Value} {T:TypeId} {g:Nat} (hg:w.heap[g]? =some (.cells old T)) (hgd:o.guard=none) (ty:TypeId) (x y:Operand) (ho:o.op= .store ty x y)
 (cs:Array Value) (hx:a.eval x= .pointer (some ⟨g,0,none⟩)) (hy:a.eval y= .agg cs) (hi:(P.info? ty).map (·.size)=some cs.size) (hold:old.size=cs.size) (h1:cs.all (·.oneCell')=true)
 (h:∀ w2:World,w2.heap[g]? =some (.cells cs T)→Turn [g] w w2→w2.heap.size=w.heap.size→wpList P ops Q rest (a.put o.dst undef) w2):
 wpList P ops Q (o::rest) a w:=by
 refine wpList_store_row hgd ty x y ho g cs hx hy T old hg hi hold h1 ?_
 exact h _ (setRow_heap _ _ _ _ _ _ hg) ⟨rfl,rfl,rfl,by simp[World.setRow],fun k _ hk=>setRow_other _ _ _ _ (by simpa using hk)⟩ (setRow_size _ _ _)
theorem wpList_load_at {cs:Array Value} {T:TypeId} {g:Nat} (hg:w.heap[g]? =some (.cells cs T)) (hgd:o.guard=none) (ty:TypeId) (x:Operand) (ho:o.op= .load ty x)
 (hx:a.eval x= .pointer (some ⟨g,0,none⟩)) (d:TypeDesc) (hu:P.underlying ty=some d) (hd:(match d with| .struct _| .array _ _=>true|_=>false)=true) (hi:(P.info? ty).map (·.size)=some cs.size)
 (h:wpList P ops Q rest (a.put o.dst (.agg cs)) w):wpList P ops Q (o::rest) a w:=
 wpList_load_row hgd ty x ho g hx T cs (0,0) d hg hu hd hi h
end
end Go.Proofs.YtnmejonfdfdegaaGreatDoor.Sh
