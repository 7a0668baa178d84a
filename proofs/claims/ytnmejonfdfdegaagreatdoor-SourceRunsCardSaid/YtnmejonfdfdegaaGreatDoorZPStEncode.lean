import Derived.Test.YtnmejonfdfdegaaGreatDoorZPSrSort
import Derived.Test.YtnmejonfdfdegaaGreatDoorZPRowKit
import Derived.Lib.Builder
import Derived.Lib.AppendStr
import Derived.Lib.UnsafeStr
import Derived.Laws.Externs
import Derived.Laws.BytesString
import Derived.Test.YtnmejonfdfdegaaGreatDoorZPNmWhole
import Derived.Stop.BytesEq
import Derived.Test.YtnmejonfdfdegaaGreatDoorZPSrLook
import Derived.Deep.CutRange
import Derived.Deep.DeepCutAuto
import Derived.Lib.FrozenHead
import Derived.Lib.ConvBytes
import Derived.StillTail
import Derived.BigQuiet
import Derived.Deep.QuietTactic
import Derived.Test.YtnmejonfdfdegaaGreatDoorZPShRounds
import Derived.Deep.RegionHeld3
import Derived.Great.BuildSlice
import Derived.Deep.LoopGhost
import Derived.Deep.OwnRows
set_option linter.unusedSimpArgs false
set_option linter.unusedVariables false
namespace Go.Proofs.YtnmejonfdfdegaaGreatDoor.St
open Go.RowKit Go.Maps Go.WideMaps Rf Rd
theorem row_ent {w:World} {B g n cap:Nat} {T:TypeId} {L:List SE} (h:w.ownsRow B T 38 (.slice (some ⟨g,0,none⟩) n cap) L.length (cellsS L)) (hid:∀ e∈L,e.id.length=32) {i:Nat} {e:SE} (he:L[i]? =some e):w.rangeAt g (i*38) e.cells:=fun j v hv=>by
 have hil:=(List.getElem?_eq_some_iff.1 he).1
 obtain⟨g',cap',hv',_,_,_,hc⟩:=rowS_form h (by omega)
 injection hv' with e1 _ _
 injection e1 with e1
 injection e1 with e1
 subst e1
 exact hc _ _ (cellsS_at hid he hv)
def RowM (w:World) (B:Nat) (v:Value) (l:List UInt8):Prop:=
 ∃ (g cap:Nat) (cur:Array Value) (fz:Nat×Nat),v= .slice (some ⟨g,0,none⟩) l.length cap∧B≤g∧w.heap[g]? =some (.cells cur 5 fz)∧(fz.2≤l.length∨cap≤fz.1)∧l.length≤cap∧cap≤maxLen∧cur.size=cap∧cur.toList.take l.length=Lib.byteCells l
theorem RowM.lt {w:World} {B:Nat} {v:Value} {l:List UInt8} (h:RowM w B v l):∀ x∈ob v,B≤x∧x < w.heap.size:=by
 obtain⟨g,cap,cur,fz,rfl,hB,hg,_⟩:=h
 intro x hx
 have:x=g:=by simpa [ob,Value.ownBlock] using hx
 subst this
 exact⟨hB,lt_of_heap' hg⟩
where lt_of_heap' {w:World} {q:Nat} {o:Obj} (h:w.heap[q]? =some o):q < w.heap.size:=(Array.getElem?_eq_some_iff.1 h).1
theorem RowM.kept {w w':World} {B:Nat} {v:Value} {l:List UInt8} (h:RowM w B v l) (hb:∀ x∈ob v,x < w.heap.size→w'.heap[x]? =w.heap[x]?):RowM w' B v l:=by
 have hl:=h.lt
 obtain⟨g,cap,cur,fz,rfl,hB,hg,rest⟩:=h
 exact⟨g,cap,cur,fz,rfl,hB,(hb g (by simp[ob,Value.ownBlock]) (hl g (by simp[ob,Value.ownBlock])).2).trans hg,rest⟩
theorem RowM.below {w w':World} {B:Nat} {v:Value} {l:List UInt8} (h:RowM w B v l) (hb:Below w.heap.size w w'):RowM w' B v l:=h.kept (fun x _ hl=>hb.block x hl)
theorem RowM.range {w:World} {B:Nat} {l:List UInt8} {g n cap:Nat} (h:RowM w B (.slice (some ⟨g,0,none⟩) n cap) l):w.rangeAt g 0 (Lib.byteCells l):=by
 obtain⟨g',cap',cur,fz,hv,_,hg,_,_,_,_,ht⟩:=h
 injection hv with e1 _ _
 injection e1 with e1
 injection e1 with e1
 subst e1
 intro j v hv
 rw[Nat.zero_add]
 have hj:j < l.length:=by have:=(List.getElem?_eq_some_iff.1 hv).1;rwa [Lib.byteCells_length] at this
 rw[←ht,List.getElem?_take_of_lt hj,Array.getElem?_toList] at hv
 rw[World.cell?,hg];simpa using hv
section
variable {w:World} {B:Nat}
end
end Go.Proofs.YtnmejonfdfdegaaGreatDoor.St
namespace Go.Proofs.YtnmejonfdfdegaaGreatDoor.Sh
open Go.RowKit Go.Maps Go.WideMaps Rf Rd St
section
variable {w:World} {B:Nat}
end
theorem RowM.slice {w:World} {B:Nat} {v:Value} {l:List UInt8} (h:RowM w B v l):∃ g cap,v= .slice (some ⟨g,0,none⟩) l.length cap:=by
 obtain⟨g,cap,_,_,hv,_⟩:=h
 exact⟨g,cap,hv⟩
end Go.Proofs.YtnmejonfdfdegaaGreatDoor.Sh
namespace Go.Proofs.YtnmejonfdfdegaaGreatDoor.Sh
open Go
section
variable {P:Program} {ops:Array Oper} {md:Region.Mode} {C:World→Prop}
def AllFirst (P:Program) (md:Region.Mode) (ops:Array Oper) (C:World→Prop) (n:Nat) (L:Array Bool→Act→Prop):Nat→Array Bool→Act→Prop
 |0=>L
 |f+1=>fun ls a=>Region.ready md ops ls≠[]∧∀ i∈Region.ready md ops ls,i < n∧qOp P ops C i (AllFirst P md ops C n L f (ls.setIfInBounds i true)) a
theorem AllFirst.any {n g:Nat} {L:Array Bool→Act→Prop} {Q:Exit→Act→World→Prop} (hL:∀ ls a w,C w→L ls a→wpAny P md ops Q g ls a w) (f:Nat):
 ∀ (ls:Array Bool) (a:Act) (w:World),C w→AllFirst P md ops C n L f ls a→wpAny P md ops Q (f+g) ls a w:=by
 induction f with
 |zero=>intro ls a w hw h;rw[Nat.zero_add];exact hL _ _ _ hw h
 |succ f ih=>
  intro ls a w hw h
  rw[Nat.succ_add]
  exact⟨fun e=>absurd e h.1,fun i hi=>wpOp_of_qOp hw (fun a' w' hw' h'=>ih _ a' w' hw' h') (h.2 i hi).2⟩
theorem AllFirst.take {n i:Nat} {oi:Oper} {v:Value} {L:Array Bool→Act→Prop} (hi:ops[i]? =some oi) (hsel:∀ (j:Nat) (o:Oper) cs b,ops[j]? =some o→o.op≠ .select cs b)
 (hs:Region.sinkB md ops n=true) (hc:Region.chainB md ops n=true) (hn:n < ops.size) (hin:i < n) (hend:∀ ls a,L ls a→∀ j∈Region.ready md ops ls,n≤j) (f:Nat):
 ∀ (ls:Array Bool) (a:Act),HeadInv md ops n ls→
   (∀ j oj,ops[j]? =some oj→j≠i→ls.getD j true=false→(∀ e∈oj.after,Region.binds md e=true→e.on≠i)→oi.apart ops oj=true)→
   i∈Region.ready md ops ls→YieldsIn P ops C oi v a→
   AllFirst P md ops C n L f (ls.setIfInBounds i true) (a.put oi.dst v)→AllFirst P md ops C n L (f+1) ls a:=by
 have early:∀ (ls:Array Bool),HeadInv md ops n ls→i∈Region.ready md ops ls→∀ j∈Region.ready md ops ls,j < n:=fun ls inv hr j hj=>by
  rcases Nat.lt_or_ge j n with h|h
  · exact h
  · exact absurd hj (tail_waits hs hc hn inv _ i rfl hin (mem_ready.1 hr).1 j h)
 induction f with
 |zero=>
  intro ls a inv _ hr hy H
  refine⟨List.ne_nil_of_mem hr,fun j hj=>⟨early ls inv hr j hj,?_⟩⟩
  by_cases hji:j=i
  · subst hji;exact hy.qOp hi H
  · have:=hend _ _ H j (ready_mono hj hji)
    have:=early ls inv hr j hj
    omega
 |succ f ih=>
  intro ls a inv hfree hr hy H
  have hun:=(mem_ready.1 hr).1
  refine⟨List.ne_nil_of_mem hr,fun j hj=>⟨early ls inv hr j hj,?_⟩⟩
  by_cases hji:j=i
  · subst hji;exact hy.qOp hi H
  · obtain⟨hjun,oj,hoj,hall⟩:=mem_ready.1 hj
    have hnot:∀ e∈oj.after,Region.binds md e=true→e.on≠i:=fun e he hb heq=>by
     have h1:=hall e he hb
     rw[heq,getD_both hun] at h1
     cases h1
    have h2:=qOp_put hoj (hfree j oj hoj hji hjun hnot) (fun cs b=>hsel i oi cs b hi) (fun cs b=>hsel j oj cs b hoj) hy (H.2 j (ready_mono hj hji)).2
    refine qOp_mono (fun a' h3=>ih (ls.setIfInBounds j true) a' (inv.set hj (early ls inv hr j hj)) ?_ (ready_mono hr (Ne.symm hji)) h3.1 ?_) h2
    · intro k ok hk hki hu hno
      refine hfree k ok hk hki ?_ hno
      by_cases hjk:j=k
      · subst hjk;exact hjun
      · rwa [getD_set_ne true hjk] at hu
    · rw[Array.setIfInBounds_comm _ _ hji]
      exact h3.2
end
end Go.Proofs.YtnmejonfdfdegaaGreatDoor.Sh
namespace Go.Proofs.YtnmejonfdfdegaaGreatDoor.Sh
open Go.RowKit Go.Maps Rf Rd St
theorem V8.In.get {V:V8} (h:V.In) (i:Nat):0≤V.list.getD i 0:=by
 match i with
 |0=>exact h.a.1
 |1=>exact h.b.1
 |2=>exact h.c.1
 |3=>exact h.d.1
 |4=>exact h.e.1
 |5=>exact h.f.1
 |6=>exact h.g.1
 |7=>exact h.h.1
 |n+8=>exact Int.le_refl 0
end Go.Proofs.YtnmejonfdfdegaaGreatDoor.Sh
namespace Go.Proofs.YtnmejonfdfdegaaGreatDoor.St
open Go.RowKit Go.Maps Go.WideMaps Rf Rd
theorem list_mid {α:Type} (l:List α) (o:Nat) (v:α) (m:Nat) (h:o < l.length):(l.take o++v::l.drop (o+1)).take (o+1)=l.take o++[v]∧(l.take o++v::l.drop (o+1)).drop (o+1+m)=l.drop (o+1+m):=by
 have hA:(l.take o).length=o:=by rw[List.length_take];omega
 have hC:l.drop (o+1+m)=(l.drop (o+1)).drop m:=by rw[List.drop_drop]
 rw[hC]
 generalize l.take o=A at*
 generalize l.drop (o+1)=C at*
 subst hA
 constructor
 · simp[List.take_append]
   exact List.take_of_length_le (by omega)
 · rw[Nat.add_assoc,←List.drop_drop,List.drop_left,Nat.add_comm,List.drop_succ_cons]
theorem heap_setCells {b:Nat} {T:TypeId}:∀ (vs:List Value) (o:Nat) (w:World) (cur:Array Value),w.heap[b]? =some (.cells cur T)→o+vs.length≤cur.size→
 ∃ cur':Array Value,(w.setCells b o vs).heap[b]? =some (.cells cur' T)∧cur'.size=cur.size∧cur'.toList=cur.toList.take o++vs++cur.toList.drop (o+vs.length)
 |[],o,w,cur,h,_=>⟨cur,h,rfl,by simp⟩
 |v::r,o,w,cur,h,hl=>by
  have h1:=setCell_heap w b o v cur T h
  have hsz:(cur.setIfInBounds o v).size=cur.size:=Array.size_setIfInBounds ..
  obtain⟨cur',a1,a2,a3⟩:=heap_setCells r (o+1) _ _ h1 (by rw[hsz];simp at hl;omega)
  refine⟨cur',a1,a2.trans hsz,?_⟩
  have ho:o < cur.toList.length:=by simp at hl ⊢;omega
  rw[a3,Array.toList_setIfInBounds,List.set_eq_take_append_cons_drop,if_pos ho]
  obtain⟨l1,l2⟩:=list_mid cur.toList o v r.length ho
  rw[l1,l2]
  simp[show o+(r.length+1)=o+1+r.length by omega]
theorem turn_setCells (w:World) (g o:Nat) (vs:List Value):Turn [g] w (w.setCells g o vs):=by
 induction vs generalizing w o with
 |nil=>exact Turn.refl _ _
 |cons v r ih=>exact ((Turn.refl [g] w).setCell (p:=⟨g,o,none⟩) (.inl (by simp)) v).trans (ih _ _) (fun y hy=> .inl hy)
end Go.Proofs.YtnmejonfdfdegaaGreatDoor.St
namespace Go.Proofs.YtnmejonfdfdegaaGreatDoor.Sh
open Go.RowKit Go.Maps Rf Rd St
theorem wpList_build_is {P:Program} {ops:Array Oper} {rest:List Oper} {o:Oper} {a:Act} {w:World} {Q:Exit→Act→World→Prop} (hg:o.guard=none) (t:TypeId) (parts:Array (Nat×Operand)) (ho:o.op= .build t parts) (cs:Array Value)
 (hb:P.built t (parts.map fun (i,x)=>(i,a.eval x)).toList=some cs) (h:wpList P ops Q rest (a.put o.dst (.agg cs)) w):wpList P ops Q (o::rest) a w:=
 wpList_build hg t parts ho (by rw[hb];rfl) (by rw[hb];exact h)
def stC (h:V8) (t:List UInt8) (n:Nat):Array Value:= #[wdV h.a,wdV h.b,wdV h.c,wdV h.d,wdV h.e,wdV h.f,wdV h.g,wdV h.h,.string ⟨t.toArray⟩,.int .u64 (n:Int)]
theorem oneSt (h:V8) (t:List UInt8) (n:Nat):(stC h t n).all (·.oneCell')=true:=by simp[stC,Value.oneCell']
end Go.Proofs.YtnmejonfdfdegaaGreatDoor.Sh
namespace Go.Proofs.YtnmejonfdfdegaaGreatDoor.St
open Go.RowKit Go.Maps Go.WideMaps Rf Rd Go.Proofs.YtnmejonfdfdegaaGreatDoor.Nm
theorem turn_grown {X:List Nat} {w w' w'':World} {row:Option Nat} (h:Turn X w w') (hg:w'.grownBy w'' row) (hX:∀ k,row=some k→k∈X):Turn X w w'':=
 ⟨hg.os.trans h.os,hg.tape.trans h.tape,hg.output.trans h.output,Nat.le_trans h.size hg.size,fun k hk hn=>(hg.block k (Nat.lt_of_lt_of_le hk h.size) (fun e=>hn (hX k e.symm))).trans (h.block k hk hn)⟩
end Go.Proofs.YtnmejonfdfdegaaGreatDoor.St
