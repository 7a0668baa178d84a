import Derived.Test.YtnmejonfdfdegaaGreatDoorZPSrStat
import Derived.Maps.AppendAt
import Derived.Lib.SliceRun
import Derived.Test.YtnmejonfdfdegaaGreatDoorZPNmWhole
import Derived.Deep.CutBlock
import Derived.Test.YtnmejonfdfdegaaGreatDoorZPRowKit
set_option linter.unusedSimpArgs false
set_option linter.unusedVariables false
set_option maxHeartbeats 16000000
set_option maxRecDepth 100000
namespace Go.Proofs.YtnmejonfdfdegaaGreatDoor.Sr
open Go.RowKit Go.Maps Go.WideMaps Rf Go.Proofs.YtnmejonfdfdegaaGreatDoor.Nm St
open Lib (hid)
abbrev Xs:=List (List UInt8×List UInt8)
theorem xcells_length:∀ xs:Xs,(xcells xs).length=xs.length*2
 |[]=>rfl
 |x::r=>by
  have:=xcells_length r
  rw[xcells,List.flatMap_cons,List.length_append,←xcells,this,List.length_cons]
  simp;omega
theorem xcells_one (xs:Xs):∀ u∈xcells xs,u.oneCell'=true:=by
 intro u hu
 obtain⟨x,_,hx⟩:=List.mem_flatMap.1 hu
 simp at hx
 rcases hx with rfl|rfl <;> rfl
theorem xcells_at:∀ {xs:Xs} {i:Nat} {x:List UInt8×List UInt8},xs[i]? =some x→(xcells xs)[i*2]? =some (.string ⟨x.1.toArray⟩)∧(xcells xs)[i*2+1]? =some (.string ⟨x.2.toArray⟩)
 |y::r,0,x,h=>by
  obtain rfl:=Option.some.inj h
  exact⟨rfl,rfl⟩
 |y::r,i+1,x,h=>by
  have:=xcells_at (xs:=r) (i:=i) (x:=x) h
  rw[show (i+1)*2=i*2+1+1 by omega]
  exact this
theorem xcells_cell {xs:Xs} {j:Nat} {u:Value} (h:(xcells xs)[j]? =some u):∃ x,xs[j / 2]? =some x∧(j=j / 2*2∧u= .string ⟨x.1.toArray⟩∨j=j / 2*2+1∧u= .string ⟨x.2.toArray⟩):=by
 have hj:=(List.getElem?_eq_some_iff.1 h).1
 rw[xcells_length] at hj
 obtain⟨x,hx⟩:∃ x,xs[j / 2]? =some x:=⟨_,List.getElem?_eq_getElem (by omega)⟩
 obtain⟨h1,h2⟩:=xcells_at hx
 refine⟨x,hx,?_⟩
 by_cases hp:j=j / 2*2
 · rw[←hp,h] at h1
   exact .inl ⟨hp,Option.some.inj h1⟩
 · have hq:j=j / 2*2+1:=by omega
   rw[←hq,h] at h2
   exact .inr ⟨hq,Option.some.inj h2⟩
theorem xs_of_own {w:World} {B:Nat} {v:Value} {xs:Xs} (h:w.ownsRow B 123 2 v xs.length (xcells xs)) (hl:∀ x∈xs,x.1.length≤maxLen∧x.2.length≤maxLen):XsAt w v xs∧∀ b∈xob xs v,B≤b:=by
 obtain⟨a,c,rfl⟩:=rowS_slice h
 have hm:xs.length≤maxLen:=by
  rcases h with⟨_,⟨_,h0⟩|⟨g,cap,cur,_,_,_,h1,h2,_⟩⟩
  · rw[h0];exact Nat.zero_le _
  · exact Nat.le_trans h1 h2
 refine⟨⟨a,c,rfl,hm,hl,fun hne=>?_⟩,fun b hb=>?_⟩
 · obtain⟨g,cap,hv,hg,_,_,hc⟩:=rowS_form h (fun h0=>hne (List.length_eq_zero_iff.1 h0))
   injection hv with e1 _ _
   subst e1
   refine⟨g,0,rfl,hg,fun i x hx=>?_⟩
   obtain⟨h1,h2⟩:=xcells_at hx
   rw[Nat.zero_add]
   exact⟨hc _ _ h1,hc _ _ h2⟩
 · cases xs with
   |nil=>simp [xob] at hb
   |cons x r=>
    obtain⟨g,cap,hv,hg,hB,_,hc⟩:=rowS_form h (by simp)
    injection hv with e1 _ _
    subst e1
    simp[xob] at hb
    subst hb;exact hB
theorem infoXa:(Tryz.prog.info? 123).map (fun i=>(i.zero,i.size,i.bytes))=some (some (.agg #[.string ⟨#[]⟩,.string ⟨#[]⟩]),2,32):=by kernel_rfl
theorem xclone_own (w:World) (v:Value) (xs:Xs) (h:XsAt w v xs) (hl:xs.length≤1000):
 Calls Tryz.prog 93 #[v] w fun e w'=>∃ v',e= .returned v'∧XsAt w' v' xs∧(∀ b∈xob xs v',w.heap.size≤b)∧Below w.heap.size w w'∧w'.ownsRow w.heap.size 123 2 v' xs.length (xcells xs):=by
 obtain⟨a,c,rfl,h1,h2,h3⟩:=h
 have H2:=hid h2;have H3:=hid h3
 obtain⟨i0,hi,hz0,hz1,hz2⟩:=info_parts infoXa
 have hz3:(Value.agg #[.string ⟨#[]⟩,.string ⟨#[]⟩]).cells.size=2:=by kernel_rfl
 have q22:∀ (w:World) (a:Option Addr) (n c n' c':Nat),(binOp .eql 77 (.slice a n c) (.slice none n' c')).run Tryz.prog w= .ok (.bool a.isNone) w:=fun w a n c n' c'=>Lib.run_eql_slice_nil w _ _ a n c n' c' Tryz.underlying77
 have HL:=hid (xcells_length xs)
 clear h2 h3
 cases a with
 |none=>
  have hx:xs=[]:=by
   cases xs with
   |nil=>rfl
   |cons x r=>obtain ⟨b,o,hc,_⟩:=H3.out (by simp);cases hc
  subst hx
  go_enter Tryz.func93,Tryz.ntmps93
  go_wp2
  go_ret
  exact⟨_,rfl,⟨none,0,rfl,by simp,by simp,by simp⟩,by simp[xob],Below.refl _ _,rowS_nil _ _ _ _⟩
 |some ad=>
  have HC:Hid (∀ (j:Nat) u,(xcells xs)[j]? =some u→w.cell? (ad.add j)=some u):=hid (by
   intro j u hj
   obtain⟨x,hx,hu⟩:=xcells_cell hj
   obtain⟨b,o,hab,_,hc⟩:=H3.out (by rintro rfl;cases hx)
   injection hab with hab
   subst hab
   rw[Addr.add_lit]
   obtain⟨c1,c2⟩:=hc _ x hx
   rcases hu with⟨e,rfl⟩|⟨e,rfl⟩
   · rw[e,←e];rw[←e] at c1;exact c1
   · rw[Nat.add_assoc,←e] at c2;exact c2)
  go_enter Tryz.func93,Tryz.ntmps93
  go_wp2_with (at_builtin;refine wpList_append_own_at _ rfl _ _ 77 rfl w.heap.size 123 i0 _ 2 32 Tryz.underlying77 hi hz0 hz1 hz2 hz3 (by decide) _ _ _ rfl (World.ownsRow_made w #[] 0 (Nat.le_refl _) (Nat.zero_le _) rfl) ad xs.length c (xcells xs) rfl HL.out ?d2 (xcells_one xs) ?d3 ?d4 ?d5 ?_)
  case d2=>intro j u hj;exact Lib.cell?_alloc_some _ (HC.out j u hj)
  case d3=>unfold maxLen;omega
  case d4=>omega
  case d5=>simp
  intro v' w1 hown hgrow hnil hat
  have HO:=hid hown;have HG:=hid hgrow
  clear hown hgrow hnil hat
  go_wp2
  go_ret
  have ho:w1.ownsRow w.heap.size 123 2 v' xs.length (xcells xs):=by simpa using HO.out
  obtain⟨k1,k2⟩:=xs_of_own ho H2.out
  refine⟨v',rfl,k1,k2,?_,ho⟩
  exact((Below.refl _ w).alloc (Nat.le_refl _) _).grown HG.out (by simp) (by intro k hk;simp[Value.ownBlock] at hk;omega)
abbrev AtT:TypeId:=79
theorem infoAt (A:XA) (v:Value):(Tryz.prog.info? AtT).map (·.size)=some (A.cells v).toArray.size:=by show _=some 7;kernel_rfl
theorem atOne (A:XA) {v:Value} (hv:v.oneCell'=true):(A.cells v).toArray.all (·.oneCell')=true:=by
 rw[Array.all_eq_true_iff_forall_mem]
 intro u hu
 simp[XA.cells] at hu
 rcases hu with rfl|rfl|rfl|rfl|rfl|rfl|rfl <;> first|rfl|exact hv
theorem xs_one {w:World} {v:Value} {xs:Xs} (h:XsAt w v xs):v.oneCell'=true:=by obtain⟨a,c,rfl,_⟩:=h;rfl
def zeroA:XA:=⟨0,0,0,0,0,[],[]⟩
theorem own_own (w:World) (A:XA) (v:Value) (h:XsAt w v A.xs) (hl:A.xs.length≤1000):
 Calls Tryz.prog 80 #[.agg (A.cells v).toArray] w fun e w'=>∃ v',e= .returned (.agg (A.cells v').toArray)∧XsAt w' v' A.xs∧(∀ b∈xob A.xs v',w.heap.size≤b)∧Below w.heap.size w w'∧w'.ownsRow w.heap.size 123 2 v' A.xs.length (xcells A.xs):=by
 obtain⟨W,hW⟩:∃ W,W=(w.alloc (.cells (A.cells v).toArray AtT)).alloc (.cells (zeroA.cells (.slice none 0 0)).toArray AtT):=⟨_,rfl⟩
 have hb0:Below w.heap.size w W:=by rw[hW];exact((Below.refl _ _).alloc (Nat.le_refl _) _).alloc (by rw[one_size];omega) _
 have hq0:W.heap[w.heap.size]? =some (.cells (A.cells v).toArray AtT):=by rw[hW];exact at_alloc (MapKept.heap_alloc w _).1 _
 have hr0:W.heap[w.heap.size+1]? =some (.cells (zeroA.cells (.slice none 0 0)).toArray AtT):=by
  have:=(MapKept.heap_alloc (w.alloc (.cells (A.cells v).toArray AtT)) (.cells (zeroA.cells (.slice none 0 0)).toArray AtT)).1
  rw[one_size] at this
  rw[hW];exact this
 have CL:=hid (xclone_own W v A.xs (h.kept hb0.size (fun b hb=>hb0.block b (h.lt b hb))) hl)
 have cq:((w.alloc (.cells (A.cells v).toArray AtT)).alloc (.cells #[.int .u8 0,.int .u32 0,.int .u32 0,.int .u32 0,.int .i64 0,.string ⟨#[]⟩,.slice none 0 0] AtT)).cell? ⟨w.heap.size,6,none⟩=some v:=by
  show((w.alloc (.cells (A.cells v).toArray AtT)).alloc (.cells (zeroA.cells (.slice none 0 0)).toArray AtT)).cell? _=_
  rw[←hW];exact cell_of_heap hq0
 have HB0:=hid hb0;have HQ0:=hid hq0;have HR0:=hid hr0;have HW:=hid hW
 have HV:=hid (xs_one h)
 obtain⟨va,vc,rfl,_⟩:=h
 clear hb0 hq0 hr0 hW
 go_enter Tryz.func80,Tryz.ntmps80
 go_wp2_with fail
 change Calls _ _ _ ((w.alloc (.cells (A.cells (.slice va A.xs.length vc)).toArray AtT)).alloc (.cells (zeroA.cells (.slice none 0 0)).toArray AtT)) _
 rw[←HW.out]
 refine CL.out.mono ?_
 rintro e w1 ⟨v',rfl,hx1,hf1,hb1,ho1⟩
 have HO1:=hid ho1
 have HB1:=hid (HB0.out.trans (hb1.mono HB0.out.size))
 have hq1:=(hb1.block _ (lt_of_heap HQ0.out)).trans HQ0.out
 have HR1:=hid ((hb1.block _ (lt_of_heap HR0.out)).trans HR0.out)
 have HX1:=hid hx1;have HF1:=hid (fun b hb=>Nat.le_trans HB0.out.size (hf1 b hb))
 have hov:v'.oneCell'=true:=xs_one hx1
 obtain⟨va',vc',rfl,_⟩:=hx1
 have c1:w1.cell? ⟨w.heap.size,6,none⟩=some (.slice va A.xs.length vc):=cell_of_heap hq1
 have f1:w1.frozen? ⟨w.heap.size,6,none⟩=false:=frozen_of_heap hq1
 have HQ2:Hid ((w1.setCell ⟨w.heap.size,6,none⟩ (.slice va' A.xs.length vc')).heap[w.heap.size]? =some (.cells (A.cells (.slice va' A.xs.length vc')).toArray AtT)):=hid (by rw[setCell_heap _ _ _ _ _ _ hq1];rfl)
 have HR2:Hid ((w1.setCell ⟨w.heap.size,6,none⟩ (.slice va' A.xs.length vc')).heap[w.heap.size+1]? =some (.cells (zeroA.cells (.slice none 0 0)).toArray AtT)):=hid ((Below.heap_setCell _ _ _ _ (show w.heap.size+1≠w.heap.size by omega)).trans HR1.out)
 have HB2:Hid (Below w.heap.size w (w1.setCell ⟨w.heap.size,6,none⟩ (.slice va' A.xs.length vc'))):=hid (HB1.out.setCell (Nat.le_refl _) _)
 have HS1:Hid (w.heap.size+2≤w1.heap.size):=hid (by have:=lt_of_heap HR1.out;omega)
 have HFS:Hid (∀ b∈xob A.xs (.slice va' A.xs.length vc'),w.heap.size+2≤b):=hid (fun b hb=>by have:=hf1 b hb;rw[HW.out,one_size,one_size] at this;omega)
 clear hb1 CL hq1 hf1 ho1
 go_wp2_with (first
  |(refine Sh.wpList_load_at (T:=AtT) (cs:=(A.cells (.slice va' A.xs.length vc')).toArray) HQ2.out rfl AtT (.tmp 1) rfl rfl _ Tryz.underlying79 rfl (infoAt _ _) ?_)
  |(refine Sh.wpList_store_at HR2.out rfl AtT (.tmp 2) (.tmp 7) rfl (A.cells (.slice va' A.xs.length vc')).toArray rfl rfl (infoAt _ _) rfl (atOne A rfl) ?_
    intro w3 hq3 ht3 hs3
    have HQ3:=hid hq3;have HT3:=hid ht3
    clear hq3 ht3 hs3))
 refine bodyPost_ret (v:= .agg (A.cells (.slice va' A.xs.length vc')).toArray) (results_cell_row (fn:=Tryz.f80) rfl _ _ (w.heap.size+1) _ _ _ _ rfl HQ3.out Tryz.underlying79 rfl (infoAt _ _)) rfl ?_
 have hB3:Below w.heap.size w w3:=HB2.out.trans (HT3.out.below (by simp) HB2.out.size)
 have hk:∀ b,w.heap.size+2≤b→b < w1.heap.size→w3.heap[b]? =w1.heap[b]? :=fun b hb hlt=>by
  rw[HT3.out.block b (by rw[World.size_setCell];exact hlt) (by simp;omega)]
  exact Below.heap_setCell _ _ _ _ (show b≠w.heap.size by omega)
 refine⟨_,rfl,HX1.out.kept ?_ (fun b hb=>hk b (HFS.out b hb) (HX1.out.lt b hb)),fun b hb=>by have:=HFS.out b hb;omega,hB3,?_⟩
 · have:=HT3.out.size
   rw[World.size_setCell] at this
   exact this
 · refine row_mono (rowS_kept HO1.out (fun b hb hl=>hk b ?_ hl)) HB0.out.size
   have:=rowS_ge HO1.out b hb
   rw[HW.out,one_size,one_size] at this
   omega
theorem own_any (w:World) (A:XA) (v:Value) (h:XsAt w v A.xs) (hl:A.xs.length≤1000):
 Calls Tryz.prog 80 #[.agg (A.cells v).toArray] w fun e w'=>∃ v',e= .returned (.agg (A.cells v').toArray)∧XsAt w' v' A.xs∧(∀ b∈xob A.xs v',w.heap.size≤b)∧Below w.heap.size w w':=
 (own_own w A v h hl).mono (fun _ _ ⟨v',a,b,c,d,_⟩=>⟨v',a,b,c,d⟩)
def xsFine:List UInt8→Xs→Bool
 |_,[]=>true
 |last,x::r=>chk x.1 && (decide (x.2.length≤4096) && (lt last x.1 && xsFine x.1 r))
def chkA (A:XA):Bool:=
 decide (1≤A.node∧A.node≤3∧A.mode≤4095∧0≤A.mtime∧A.mtime≤1099511627776) && (decide (A.node=3 ↔ A.target≠[]) && (decide (A.target.length≤1024) && (decide (0 ∉ A.target) && (decide (A.xs.length≤16) && xsFine [] A.xs))))
def chkAE (A:XA):Int:=if chkA A then 0 else 1
theorem indexByte_not (l:List UInt8) (c:UInt8):0≤Lib.indexByte l c ↔ c∈l:=by
 induction l with
 |nil=>simp [Lib.indexByte]
 |cons x r ih=>
  have hge:=Lib.indexByte_ge r c
  rw[Lib.indexByte]
  by_cases h:x=c
  · simp[h]
  · have h2:c≠x:=Ne.symm h
    rw[if_neg (by simpa using h),List.mem_cons,or_iff_right h2,←ih]
    by_cases hm:Lib.indexByte r c= -1
    · rw[if_pos (by rw[hm];rfl),hm]
    · rw[if_neg (by simpa using hm)];omega
theorem contains_any (s:ByteArray) (c:UInt8) (w:World):
 Calls Tryz.prog 99 #[.string s,.string ⟨#[c]⟩] w fun e w'=>e= .returned (.bool (decide (c∈s.data.toList)))∧w'=w:=by
 have IX:=hid (Tryz.strings_Index_one s c w)
 have HD:Hid (decide (0≤Lib.indexByte s.data.toList c)=decide (c∈s.data.toList)):=hid (by rw[decide_eq_decide];exact indexByte_not _ _)
 go_enter Tryz.func99,Tryz.ntmps99
 go_wp2_with fail
 refine IX.out.mono ?_
 rintro e w1 ⟨rfl,hw⟩
 obtain rfl:w=w1:=hw.symm
 go_wp2
 go_ret
 rw[←HD.out]
 exact⟨rfl,rfl⟩
theorem less_any (a b:List UInt8) (w:World):
 Calls Tryz.prog 100 #[.string ⟨a.toArray⟩,.string ⟨b.toArray⟩] w fun e w'=>e= .returned (.bool (lt a b))∧w'=w:=by
 have h:=lt_less a b
 go_enter Tryz.func100,Tryz.ntmps100
 go_wp2
 go_ret
 first|exact⟨rfl,rfl⟩|(rw[←h];exact⟨rfl,rfl⟩)
theorem infoXa1 (x:List UInt8×List UInt8):(Tryz.prog.info? 123).map (·.size)=some (#[Value.string ⟨x.1.toArray⟩,Value.string ⟨x.2.toArray⟩]:Array Value).size:=by show _=some 2;kernel_rfl
theorem chk_any (w:World) (A:XA) (v:Value) (h:XsAt w v A.xs):
 Calls Tryz.prog 86 #[.agg (A.cells v).toArray] w fun e w'=>e= .returned (.int .i64 (chkAE A))∧Below w.heap.size w w':=by
 obtain⟨W,hW⟩:∃ W,W=w.alloc (.cells (A.cells v).toArray AtT):=⟨_,rfl⟩
 have hb0:Below w.heap.size w W:=by rw[hW];exact(Below.refl _ _).alloc (Nat.le_refl _) _
 have hq0:W.heap[w.heap.size]? =some (.cells (A.cells v).toArray AtT):=by rw[hW];exact(MapKept.heap_alloc w _).1
 have hX:=h.kept hb0.size (fun b hb=>hb0.block b (h.lt b hb))
 have CO:=hid (fun w=>contains_any ⟨A.target.toArray⟩ 0 w)
 obtain⟨va,vc,rfl,hxm,hxl,hxc⟩:=hX
 have HXL:=hid hxl;have HXC:=hid hxc;have HB0:=hid hb0;have HW:=hid hW
 have C:Hid (∀ w':World,Below W.heap.size W w'→w'.heap[w.heap.size]? =some (.cells (A.cells (.slice va A.xs.length vc)).toArray AtT)):=hid (fun w' hb=>(hb.block _ (lt_of_heap hq0)).trans hq0)
 have k0:(w.alloc (.cells (A.cells (.slice va A.xs.length vc)).toArray AtT)).cell? ⟨w.heap.size,0,none⟩=some (.int .u8 (A.node:Int)):=by rw[←hW];exact cell_of_heap hq0
 have k1:(w.alloc (.cells (A.cells (.slice va A.xs.length vc)).toArray AtT)).cell? ⟨w.heap.size,1,none⟩=some (.int .u32 (A.mode:Int)):=by rw[←hW];exact cell_of_heap hq0
 have k4:(w.alloc (.cells (A.cells (.slice va A.xs.length vc)).toArray AtT)).cell? ⟨w.heap.size,4,none⟩=some (.int .i64 A.mtime):=by rw[←hW];exact cell_of_heap hq0
 have k5:(w.alloc (.cells (A.cells (.slice va A.xs.length vc)).toArray AtT)).cell? ⟨w.heap.size,5,none⟩=some (.string ⟨A.target.toArray⟩):=by rw[←hW];exact cell_of_heap hq0
 have k6:(w.alloc (.cells (A.cells (.slice va A.xs.length vc)).toArray AtT)).cell? ⟨w.heap.size,6,none⟩=some (.slice va A.xs.length vc):=by rw[←hW];exact cell_of_heap hq0
 have hts:(⟨A.target.toArray⟩:ByteArray).size=A.target.length:=rfl
 rw[show (⟨A.target.toArray⟩:ByteArray).data.toList=A.target from by simp] at CO
 have HCA:Hid (chkAE A=if chkA A then 0 else 1):=hid rfl
 have HCB:Hid (chkA A=(decide (1≤A.node∧A.node≤3∧A.mode≤4095∧0≤A.mtime∧A.mtime≤1099511627776) && (decide (A.node=3 ↔ A.target≠[]) && (decide (A.target.length≤1024) && (decide (0 ∉ A.target) && (decide (A.xs.length≤16) && xsFine [] A.xs)))))):=hid rfl
 generalize chkAE A=R at*
 generalize chkA A=RB at*
 unfold maxLen at hxm
 clear hb0 hq0 hxl hxc h hW
 have NO:Hid (RB=false→R=1):=hid (fun h=>by rw[HCA.out,h];rfl)
 by_cases a1:1≤A.node
 case neg=>
  have hr:R=1:=NO.out (by rw[HCB.out,decide_eq_false (by omega),Bool.false_and])
  have b1:(A.node:Int) < 1:=by omega
  subst hr
  clear HCA HCB NO a1
  go_enter Tryz.func86,Tryz.ntmps86
  go_wp2
  go_ret
  exact⟨rfl,(Below.refl _ _).alloc (Nat.le_refl _) _⟩
 have b1:¬ (A.node:Int) < 1:=by omega
 by_cases a2:A.node≤3
 case neg=>
  have hr:R=1:=NO.out (by rw[HCB.out,decide_eq_false (by omega),Bool.false_and])
  have b2:(3:Int) < (A.node:Int):=by omega
  subst hr
  clear HCA HCB NO a1 a2
  go_enter Tryz.func86,Tryz.ntmps86
  go_wp2
  go_ret
  exact⟨rfl,(Below.refl _ _).alloc (Nat.le_refl _) _⟩
 have b2:¬ (3:Int) < (A.node:Int):=by omega
 by_cases a3:A.mode≤4095
 case neg=>
  have hr:R=1:=NO.out (by rw[HCB.out,decide_eq_false (by omega),Bool.false_and])
  have b3:(4095:Int) < (A.mode:Int):=by omega
  subst hr
  clear HCA HCB NO a1 a2 a3
  go_enter Tryz.func86,Tryz.ntmps86
  go_wp2
  go_ret
  exact⟨rfl,(Below.refl _ _).alloc (Nat.le_refl _) _⟩
 have b3:¬ (4095:Int) < (A.mode:Int):=by omega
 by_cases a4:0≤A.mtime
 case neg=>
  have hr:R=1:=NO.out (by rw[HCB.out,decide_eq_false (by omega),Bool.false_and])
  have b4:A.mtime < 0:=by omega
  subst hr
  clear HCA HCB NO a1 a2 a3 a4
  go_enter Tryz.func86,Tryz.ntmps86
  go_wp2
  go_ret
  exact⟨rfl,(Below.refl _ _).alloc (Nat.le_refl _) _⟩
 have b4:¬ A.mtime < 0:=by omega
 by_cases a5:A.mtime≤1099511627776
 case neg=>
  have hr:R=1:=NO.out (by rw[HCB.out,decide_eq_false (by omega),Bool.false_and])
  have b5:1099511627776 < A.mtime:=by omega
  subst hr
  clear HCA HCB NO a1 a2 a3 a4 a5
  go_enter Tryz.func86,Tryz.ntmps86
  go_wp2
  go_ret
  exact⟨rfl,(Below.refl _ _).alloc (Nat.le_refl _) _⟩
 have b5:¬ 1099511627776 < A.mtime:=by omega
 have HCC:Hid (RB=(decide (A.node=3 ↔ A.target≠[]) && (decide (A.target.length≤1024) && (decide (0 ∉ A.target) && (decide (A.xs.length≤16) && xsFine [] A.xs))))):=hid (by rw[HCB.out,decide_eq_true ⟨a1,a2,a3,a4,a5⟩,Bool.true_and])
 clear HCB a1 a2 a3 a4 a5
 obtain⟨n3,hn3⟩:∃ n3,n3=((A.node:Int)==3):=⟨_,rfl⟩
 obtain⟨te,hte⟩:∃ te,te=(A.target==[]):=⟨_,rfl⟩
 have HL:Hid (decide (A.node=3 ↔ A.target≠[])=(n3 !=te)):=hid (by
  rw[hn3,hte,Bool.eq_iff_iff,decide_eq_true_iff]
  by_cases x:A.node=3
  · have:((A.node:Int)==3)=true:=by rw[beq_iff_eq];omega
    rw[this]
    cases A.target <;> simp[x]
  · have:((A.node:Int)==3)=false:=by rw[beq_eq_false_iff_ne];omega
    rw[this]
    cases A.target <;> simp[x])
 have e3:=hn3.symm
 have e5:=hte.symm
 clear hn3 hte
 by_cases a6:n3=te
 · have hr:R=1:=NO.out (by rw[HCC.out,HL.out,a6];simp)
   subst a6 hr
   clear HCA HCC NO HL
   cases n3 with
   |true=>
    go_enter Tryz.func86,Tryz.ntmps86
    go_wp2
    go_ret
    exact⟨rfl,(Below.refl _ _).alloc (Nat.le_refl _) _⟩
   |false=>
    go_enter Tryz.func86,Tryz.ntmps86
    go_wp2
    go_ret
    exact⟨rfl,(Below.refl _ _).alloc (Nat.le_refl _) _⟩
 have HCD:Hid (RB=(decide (A.target.length≤1024) && (decide (0 ∉ A.target) && (decide (A.xs.length≤16) && xsFine [] A.xs)))):=hid (by rw[HCC.out,HL.out,bne_iff_ne.2 a6,Bool.true_and])
 obtain⟨rfl⟩:te= !n3:=by cases te <;> cases n3 <;> simp at a6 ⊢
 clear HCC HL a6
 by_cases a7:A.target.length≤1024
 case neg=>
  have hr:R=1:=NO.out (by rw[HCD.out,decide_eq_false a7,Bool.false_and])
  have b7:(1024:Int) < (A.target.length:Int):=by omega
  subst hr
  clear HCA HCD NO a7
  go_enter Tryz.func86,Tryz.ntmps86
  go_wp2
  go_ret
  exact⟨rfl,(Below.refl _ _).alloc (Nat.le_refl _) _⟩
 have b7:¬ (1024:Int) < (A.target.length:Int):=by omega
 have HCE:Hid (RB=(decide (0 ∉ A.target) && (decide (A.xs.length≤16) && xsFine [] A.xs))):=hid (by rw[HCD.out,decide_eq_true a7,Bool.true_and])
 clear HCD a7
 by_cases a8:0∈A.target
 case pos=>
  have hr:R=1:=NO.out (by rw[HCE.out,decide_eq_false (by simpa using a8),Bool.false_and])
  rw[decide_eq_true a8] at CO
  subst hr
  clear HCA HCE NO a8
  go_enter Tryz.func86,Tryz.ntmps86
  go_wp2_with fail
  refine(CO.out _).mono ?_
  rintro ex w1 ⟨rfl,hw1⟩
  obtain rfl:=hw1
  go_wp2
  go_ret
  exact⟨rfl,(Below.refl _ _).alloc (Nat.le_refl _) _⟩
 rw[decide_eq_false a8] at CO
 have HCF:Hid (RB=(decide (A.xs.length≤16) && xsFine [] A.xs)):=hid (by rw[HCE.out,decide_eq_true (by simpa using a8),Bool.true_and])
 clear HCE a8
 by_cases a9:A.xs.length≤16
 case neg=>
  have hr:R=1:=NO.out (by rw[HCF.out,decide_eq_false a9,Bool.false_and])
  have b9:(16:Int) < (A.xs.length:Int):=by omega
  subst hr
  clear HCA HCF NO a9
  go_enter Tryz.func86,Tryz.ntmps86
  go_wp2_with fail
  refine(CO.out _).mono ?_
  rintro ex w1 ⟨rfl,hw1⟩
  obtain rfl:=hw1
  go_wp2
  go_ret
  exact⟨rfl,(Below.refl _ _).alloc (Nat.le_refl _) _⟩
 have b9:¬ (16:Int) < (A.xs.length:Int):=by omega
 have HCG:Hid (RB=xsFine [] A.xs):=hid (by rw[HCF.out,decide_eq_true a9,Bool.true_and])
 clear HCF
 have CN:=hid (fun (s:List UInt8) w (h:s.length≤maxLen)=>check_any ⟨s.toArray⟩ w h)
 have CL:=hid less_any
 have HBW:Hid (Below w.heap.size w W):=HB0
 go_enter Tryz.func86,Tryz.ntmps86
 go_wp2_with fail
 refine(CO.out _).mono ?_
 rintro ex w1 ⟨rfl,hw1⟩
 obtain rfl:=hw1
 go_wp2
 rw[←HW.out]
 go_loopw [4,48] (fun v4 v48 wr=>∃ (i:Nat) (last:List UInt8),i≤A.xs.length∧v48= .int .i64 (i:Int)∧v4= .string ⟨last.toArray⟩∧Hid (xsFine [] A.xs=xsFine last (A.xs.drop i))∧Hid (Below W.heap.size W wr)) (fun _ v48 _=>A.xs.length - (RowKit.intOf v48).toNat)
 case atStart=>exact ⟨0,[],by omega,rfl,rfl,hid rfl,hid (Below.refl _ _)⟩
 case round=>
  obtain⟨i,last,hi,rfl,rfl,HF,HB⟩:=hrel
  have HBF:Hid (Below w.heap.size w wr):=hid (HBW.out.trans (HB.out.mono HBW.out.size))
  clear k0 k1 k4 k5 k6
  by_cases hil:(i:Int) < (A.xs.length:Int)
  · have hi2:i < A.xs.length:=by omega
    obtain⟨x,hx⟩:∃ x,A.xs[i]? =some x:=⟨_,List.getElem?_eq_getElem hi2⟩
    obtain⟨b,o,rfl,hb,hcl⟩:=HXC.out (fun h=>by rw[h] at hi2;cases hi2)
    obtain⟨cx1,cx2⟩:=hcl i x hx
    have cy1:=(World.cell?_of_block (a:=⟨b,o+i*2,none⟩) (HB.out.block b hb)).trans cx1
    have cy2:=(World.cell?_of_block (a:=⟨b,o+i*2+1,none⟩) (HB.out.block b hb)).trans cx2
    obtain⟨l1,l2⟩:=HXL.out x (List.mem_of_getElem? hx)
    have HDR:Hid (xsFine [] A.xs=(chk x.1 && (decide (x.2.length≤4096) && (lt last x.1 && xsFine x.1 (A.xs.drop (i+1)))))):=hid (by
     rw[HF.out,List.drop_eq_getElem_cons hi2,xsFine]
     have:A.xs[i]=x:=by rw[List.getElem?_eq_getElem hi2] at hx;exact Option.some.inj hx
     rw[this])
    have CN1:=CN.out x.1
    have CN1:=hid (fun w=>CN1 w l1)
    have hvs:(⟨x.2.toArray⟩:ByteArray).size=x.2.length:=rfl
    have CLL:=hid (CL.out last x.1)
    have HRG:Hid (wr.rangeAt b (o+i*2) [.string ⟨x.1.toArray⟩,.string ⟨x.2.toArray⟩]):=hid (by
     intro j u hu
     match j,hu with
     |0,hu=>obtain rfl:=Option.some.inj hu;exact cy1
     |1,hu=>obtain rfl:=Option.some.inj hu;exact cy2)
    have HI2:=hid (infoXa1 x)
    clear hcl cx1 cx2 hx cy1 cy2
    go_wp2_with (first
     |(refine wpList_load_mid rfl _ _ rfl b (o+i*2) rfl [.string ⟨x.1.toArray⟩,.string ⟨x.2.toArray⟩] _ HRG.out Tryz.underlying123 rfl HI2.out ?_))
    obtain⟨w2,hw2⟩:∃ w2,w2=wr.alloc (.cells #[.string ⟨x.1.toArray⟩,.string ⟨x.2.toArray⟩] 123):=⟨_,rfl⟩
    have hq2:w2.heap[wr.heap.size]? =some (.cells #[.string ⟨x.1.toArray⟩,.string ⟨x.2.toArray⟩] 123):=by rw[hw2];exact(MapKept.heap_alloc wr _).1
    have hb2:Below wr.heap.size wr w2:=by rw[hw2];exact(Below.refl _ _).alloc (Nat.le_refl _) _
    rw[←hw2]
    have HBN:Hid (Below w.heap.size w w2):=hid (HBF.out.trans (hb2.mono HBF.out.size))
    have HBW2:Hid (Below W.heap.size W w2):=hid (HB.out.trans (hb2.mono HB.out.size))
    have HQ2:=hid hq2
    have g0:w2.cell? ⟨wr.heap.size,0,none⟩=some (.string ⟨x.1.toArray⟩):=cell_of_heap hq2
    have g1:w2.cell? ⟨wr.heap.size,1,none⟩=some (.string ⟨x.2.toArray⟩):=cell_of_heap hq2
    clear hq2 hb2 hw2
    have CNW:=CN1.out w2
    clear CN1 CN
    rw[chkN] at CNW
    cases hck:chk x.1 with
    |false=>
     rw[hck] at CNW
     have CNW:Hid (Calls Tryz.prog 92 #[.string ⟨x.1.toArray⟩] w2 fun e w'=>e= .returned (.int .i64 10)∧Below w2.heap.size w2 w'):=hid CNW
     have hr:R=1:=NO.out (by rw[HCG.out,HDR.out,hck,Bool.false_and])
     subst hr
     clear hck HDR
     refine CNW.out.mono ?_
     rintro ex w3 ⟨rfl,hb3⟩
     have HB3:=hid (HBN.out.trans (hb3.mono HBN.out.size))
     clear hb3 CNW
     go_wp2
     go_ret
     exact⟨rfl,HB3.out⟩
    |true=>
     rw[hck] at CNW
     have CNW:Hid (Calls Tryz.prog 92 #[.string ⟨x.1.toArray⟩] w2 fun e w'=>e= .returned (.int .i64 0)∧Below w2.heap.size w2 w'):=hid CNW
     have HDR2:Hid (xsFine [] A.xs=(decide (x.2.length≤4096) && (lt last x.1 && xsFine x.1 (A.xs.drop (i+1))))):=hid (by rw[HDR.out,hck,Bool.true_and])
     clear hck HDR
     refine CNW.out.mono ?_
     rintro ex w3 ⟨rfl,hb3⟩
     have HB3:=hid (HBN.out.trans (hb3.mono HBN.out.size))
     have HBW3:=hid (HBW2.out.trans (hb3.mono HBW2.out.size))
     have q3:=(hb3.block wr.heap.size (lt_of_heap HQ2.out)).trans HQ2.out
     have g0':w3.cell? ⟨wr.heap.size,0,none⟩=some (.string ⟨x.1.toArray⟩):=cell_of_heap q3
     have g1':w3.cell? ⟨wr.heap.size,1,none⟩=some (.string ⟨x.2.toArray⟩):=cell_of_heap q3
     clear hb3 CNW g0 g1 q3
     by_cases hv:x.2.length≤4096
     case neg=>
      have hvi:(4096:Int) < (x.2.length:Int):=by omega
      have hr:R=1:=NO.out (by rw[HCG.out,HDR2.out,decide_eq_false hv,Bool.false_and])
      subst hr
      clear hv HDR2
      go_wp2
      go_ret
      exact⟨rfl,HB3.out⟩
     have hvi:¬ (4096:Int) < (x.2.length:Int):=by omega
     have CLW:=CLL.out w3
     cases hlt:lt last x.1 with
     |false=>
      rw[hlt] at CLW
      have CLW:=hid CLW
      have hr:R=1:=NO.out (by rw[HCG.out,HDR2.out,hlt,Bool.false_and,Bool.and_false])
      subst hr
      clear hv HDR2 hlt CLL
      go_wp2_with fail
      refine CLW.out.mono ?_
      rintro ex w4 ⟨rfl,hw4⟩
      obtain rfl:w3=w4:=hw4.symm
      go_wp2
      go_ret
      exact⟨rfl,HB3.out⟩
     |true=>
      rw[hlt] at CLW
      have CLW:=hid CLW
      have HDR3:Hid (xsFine [] A.xs=xsFine x.1 (A.xs.drop (i+1))):=hid (by rw[HDR2.out,hlt,decide_eq_true hv,Bool.true_and,Bool.true_and])
      clear hv HDR2 hlt CLL
      go_wp2_with fail
      refine CLW.out.mono ?_
      rintro ex w4 ⟨rfl,hw4⟩
      obtain rfl:w3=w4:=hw4.symm
      go_wp2
      go_roundw
      case rel=>exact ⟨i+1,x.1,by omega,by go_num,rfl,HDR3,HBW3⟩
      case measure=>simp [RowKit.intOf];omega
  · obtain rfl:i=A.xs.length:=by omega
    have hr:R=0:=by
     rw[HCA.out,HCG.out,HF.out,List.drop_length];rfl
    subst hr
    go_wp2
    go_ret
    exact⟨rfl,HBF.out⟩
theorem getT_ins_other {e:TE} {n:PN} (hn:e.nm≠n):∀ L:List TE,getT n (insT e L)=getT n L
 |[]=>by simp[insT,getT,hn]
 |y::r=>by
  rw[insT];split
  · rw[getT,List.find?_cons,decide_eq_false hn];rfl
  · have ih:=getT_ins_other hn r
    rw[getT,List.find?_cons,getT,List.find?_cons]
    cases decide (y.nm=n)
    · exact ih
    · rfl
theorem own_ins (e:TE) (L:List TE):(ownL (insT e L)).Perm (ownE e++ownL L):=(insT_perm e L).flatMap_right ownE
theorem xob_ins {e:TE} {L:List TE} {b:Nat}:b∈xobL (insT e L) ↔ b∈xob e.at_.xs e.xv∨b∈xobL L:=by
 rw[xobL,List.mem_flatMap,xobL,List.mem_flatMap]
 constructor
 · rintro ⟨x,hx,hb⟩
   rcases mem_insT.1 hx with rfl|hx
   · exact .inl hb
   · exact .inr ⟨x,hx,hb⟩
 · rintro (hb|⟨x,hx,hb⟩)
   · exact⟨e,mem_insT.2 (.inl rfl),hb⟩
   · exact⟨x,mem_insT.2 (.inr hx),hb⟩
theorem kid_store {w:World} {b:Nat} {m:MV Nat} (h:w.ownsMap Tryz.prog 9 Rv b 1000000 (toD ptr m)) (s:List UInt8) (hs:s.length≤maxLen) (p:Nat) (hl:(putM m s p).length≤1000000):
 ∃ w',(Instr.mapUpdate 80 (.map (some b)) (.string ⟨s.toArray⟩) (ptr p)).run Tryz.prog w= .ok () w'∧w'.ownsMap Tryz.prog 9 Rv b 1000000 (toD ptr (putM m s p))∧Turn [b] w w':=by
 obtain⟨w',hrun,hown,ht⟩:=h.store law Tryz.underlying80 (by decide) (val:=ptr p) (keyK ⟨s.toArray⟩ hs) rfl
 have t:=ht.grown
 have hT:Turn [b] w w':=⟨t.os,t.tape,t.output,t.size,fun k hk hx=>t.block k hk (by simpa using hx)⟩
 have e1:(⟨s.toArray⟩:ByteArray).data.toList=s:=by simp
 rw[e1,toD_put] at hown
 exact⟨w',hrun,map_tight hown hl,hT⟩
theorem TreeAt.ins {B:Nat} {w w':World} {r:Nat} {T:Tr} (h:TreeAt B w r T) {n u:TE} {ns:PN} {s:List UInt8} {ub:Nat} (hn:n.nm=ns++[s]) (hno:getT n.nm T.L=none)
 (hu:u∈T.L) (hun:u.nm=ns) (hub:u.m=some ub) (hkind:n.at_.node=2 ↔ n.m≠none)
 (hc:w'.heap[n.p]? =some (.cells n.cells.toArray NdT)) (hm:∀ b,n.m=some b→w'.ownsMap Tryz.prog 9 Rv b 1000000 (toD ptr ([]:MV Nat))) (hxs:XsAt w' n.xv n.at_.xs)
 (hmap:w'.ownsMap Tryz.prog 9 Rv ub 1000000 (toD ptr (putM (kidsT T.L ns) s n.p)))
 (hoth:∀ b∈r::(ownL T.L++xobL T.L),b≠ub→w'.heap[b]? =w.heap[b]?) (hs:w.heap.size≤w'.heap.size)
 (hnew:∀ b∈ownE n++xob n.at_.xs n.xv,w.heap.size≤b) (hnd:(ownE n).Nodup) (hxo:∀ b∈xob n.at_.xs n.xv,b ∉ ownE n) (hB:B≤w.heap.size):
 TreeAt B w' r {T with L:=insT n T.L}:=by
 have hfree:=getT_none.1 hno
 have hlt:∀ b∈r::(ownL T.L++xobL T.L),b < w.heap.size:=h.lt
 have hubo:ub∈ownL T.L:=ownL_mem2 hu hub
 have hne:∀ x∈T.L,x≠u→∀ b∈ownE x++xob x.at_.xs x.xv,b≠ub:=by
  intro x hx hxu b hb hbe
  subst hbe
  rcases List.mem_append.1 hb with hb|hb
  · exact hxu (flat_inj h.own_nod hx hu hb (by simp[ownE,hub]))
  · exact h.xoff _ (List.mem_flatMap.2 ⟨x,hx,hb⟩) (List.mem_cons_of_mem _ hubo)
 have hin:∀ x∈T.L,∀ b∈ownE x++xob x.at_.xs x.xv,b∈r::(ownL T.L++xobL T.L):=by
  intro x hx b hb
  rw[List.mem_cons,List.mem_append]
  rcases List.mem_append.1 hb with hb|hb
  · exact .inr (.inl (List.mem_flatMap.2 ⟨x,hx,hb⟩))
  · exact .inr (.inr (List.mem_flatMap.2 ⟨x,hx,hb⟩))
 have hup:u.p≠ub:=by
  have hnd:=own_nodE h.own_nod hu
  rw[ownE,List.nodup_cons] at hnd
  rintro he
  exact hnd.1 (by rw[he,hub];simp)
 have huxo:∀ b∈xob u.at_.xs u.xv,b≠ub:=fun b hb he=>h.xoff b (List.mem_flatMap.2 ⟨u,hu,hb⟩) (by rw[he];exact List.mem_cons_of_mem _ hubo)
 refine⟨?_,fun x hx=>?_,?_,fun b hb=>?_,fun b hb=>?_,insT_srt h.srt hfree,fun x hx n' s' hxn=>?_,fun x hx=>?_⟩
 · obtain⟨e0,h1,h2⟩:=h.root
   refine⟨e0,by rw[getT_ins_other (by rw[hn];simp)];exact h1,(hoth r (by simp) ?_).trans h2⟩
   rintro rfl;exact h.r_own hubo
 · rcases mem_insT.1 hx with rfl|hx
   · refine⟨hc,fun b hb=>?_,hxs⟩
     have hk:kidsT (insT x T.L) x.nm=[]:=by
      rw[List.eq_nil_iff_forall_not_mem]
      intro k hk
      obtain⟨y,hy,h1,_⟩:=kidsT_mem.1 hk
      rcases mem_insT.1 hy with rfl|hy
      · have:=congrArg List.length h1;simp at this
      · obtain⟨v,hv,h2,_⟩:=h.par y hy _ _ h1
        exact hfree v hv h2
     rw[hk];exact hm b hb
   · by_cases hxu:x=u
     · subst hxu
       refine⟨(hoth _ (hin x hx _ (by simp[ownE])) hup).trans (h.node x hx).cells,fun b hb=>?_,(h.node x hx).xs.kept hs (fun b hb=>hoth b (hin x hx b (by simp[hb])) (huxo b hb))⟩
       obtain rfl:=Option.some.inj (hub.symm.trans hb)
       rw[hun,kids_put hn h.srt hfree]
       exact hmap
     · have:=(h.node x hx).kept hs (fun b hb=>hoth b (hin x hx b hb) (hne x hx hxu b hb))
       refine⟨this.cells,fun b hb=>?_,this.xs⟩
       rw[kids_put_other (fun s' he=>hxu ?_)]
       · exact this.kids b hb
       · rw[hn] at he
         have:=(List.append_inj' he rfl).1
         exact srtT_inj h.srt hx hu (by rw[hun,this])
 · show(r::ownL (insT n T.L)).Nodup
   have hp:(r::ownL (insT n T.L)).Perm (r::(ownE n++ownL T.L)):=(own_ins n T.L).cons r
   rw[hp.nodup_iff,List.nodup_cons,List.nodup_append]
   refine⟨fun hr=>?_,hnd,h.own_nod,fun a ha b hb hab=>?_⟩
   · rcases List.mem_append.1 hr with hr|hr
     · have:=hnew r (by simp[hr]);have:=hlt r (by simp);omega
     · exact h.r_own hr
   · subst hab
     have:=hnew a (by simp[ha]);have:=hlt a (by simp[hb]);omega
 · show b ∉ r::ownL (insT n T.L)
   intro hbo
   rw[List.mem_cons,(own_ins n T.L).mem_iff,List.mem_append] at hbo
   rcases xob_ins.1 hb with hb|hb
   · have:=hnew b (by simp[hb])
     rcases hbo with rfl|hbo|hbo
     · have:=hlt b (by simp);omega
     · exact hxo b hb hbo
     · have:=hlt b (by simp[hbo]);omega
   · have:=hlt b (by simp[hb])
     rcases hbo with hbo|hbo|hbo
     · exact h.xoff b hb (by simp[hbo])
     · have:=hnew b (by simp[hbo]);omega
     · exact h.xoff b hb (by simp[hbo])
 · rw[List.mem_cons,List.mem_append] at hb
   rcases hb with rfl|hb|hb
   · exact h.base _ (by simp)
   · have hb:b∈ownL (insT n T.L):=hb
     rw[(own_ins n T.L).mem_iff,List.mem_append] at hb
     rcases hb with hb|hb
     · exact Nat.le_trans hB (hnew b (by simp[hb]))
     · exact h.base b (by simp[hb])
   · rcases xob_ins.1 hb with hb|hb
     · exact Nat.le_trans hB (hnew b (by simp[hb]))
     · exact h.base b (by simp[hb])
 · rcases mem_insT.1 hx with rfl|hx
   · rw[hn] at hxn
     have:=(List.append_inj' hxn rfl).1
     exact⟨u,mem_insT.2 (.inr hu),hun.trans this,by rw[hub];simp⟩
   · obtain⟨v,hv,h1,h2⟩:=h.par x hx n' s' hxn
     exact⟨v,mem_insT.2 (.inr hv),h1,h2⟩
 · rcases mem_insT.1 hx with rfl|hx
   · exact hkind
   · exact h.kind x hx
end Go.Proofs.YtnmejonfdfdegaaGreatDoor.Sr
namespace Go.Proofs.YtnmejonfdfdegaaGreatDoor.Sr
open Go.RowKit Rf Go.Proofs.YtnmejonfdfdegaaGreatDoor.Nm St
def subT (L:List TE) (n:PN):List TE:=L.filter fun e=>n.isPrefixOf e.nm
theorem subT_mem {L:List TE} {n:PN} {e:TE}:e∈subT L n ↔ e∈L∧∃ t,e.nm=n++t:=by
 rw[subT,List.mem_filter,List.isPrefixOf_iff_prefix]
 constructor
 · rintro ⟨h,t,ht⟩;exact⟨h,t,ht.symm⟩
 · rintro ⟨h,t,ht⟩;exact⟨h,t,ht.symm⟩
theorem subT_srt {L:List TE} (h:SrtT L) (n:PN):SrtT (subT L n):=h.sublist List.filter_sublist
theorem subT_root (L:List TE):subT L []=L:=by
 rw[subT,List.filter_eq_self];intro e _;rfl
theorem srt_ext:∀ {A B:List TE},SrtT A→SrtT B→(∀ x,x∈A ↔ x∈B)→A=B
 |[],[],_,_,_=>rfl
 |[],b::B,_,_,h=>by have:=(h b).2 (by simp);cases this
 |a::A,[],_,_,h=>by have:=(h a).1 (by simp);cases this
 |a::A,b::B,ha,hb,h=>by
  obtain⟨a1,a2⟩:=List.pairwise_cons.1 ha
  obtain⟨b1,b2⟩:=List.pairwise_cons.1 hb
  have e:a=b:=by
   rcases List.mem_cons.1 ((h a).1 (by simp)) with e|hab
   · exact e
   · rcases List.mem_cons.1 ((h b).2 (by simp)) with e|hba
     · exact e.symm
     · have:=ahd_trans (a1 b hba) (b1 a hab)
       rw[ahd_irrefl] at this;cases this
  subst e
  congr 1
  refine srt_ext a2 b2 (fun x=>?_)
  have hx:=h x
  rw[List.mem_cons,List.mem_cons] at hx
  constructor
  · intro hxa
    rcases hx.1 (.inr hxa) with rfl|hxb
    · have:=a1 _ hxa;rw[ahd_irrefl] at this;cases this
    · exact hxb
  · intro hxb
    rcases hx.2 (.inr hxb) with rfl|hxa
    · have:=b1 _ hxb;rw[ahd_irrefl] at this;cases this
    · exact hxa
def ParT (L:List TE):Prop:=∀ e∈L,∀ n s,e.nm=n++[s]→∃ u∈L,u.nm=n
theorem ParT.pre {L:List TE} (h:ParT L):∀ (t:PN) {n:PN} {e:TE},e∈L→e.nm=n++t→∃ u∈L,u.nm=n:=by
 intro t
 generalize hk:t.length=k
 induction k generalizing t with
 |zero=>
  intro n e he hn
  obtain rfl:=List.length_eq_zero_iff.1 hk
  exact⟨e,he,by simpa using hn⟩
 |succ k ih=>
  intro n e he hn
  have hne:t≠[]:=by rintro rfl;cases hk
  obtain⟨a,s,rfl⟩:∃ a s,t=a++[s]:=⟨t.dropLast,t.getLast hne,(List.dropLast_concat_getLast hne).symm⟩
  obtain⟨u,hu,h1⟩:=h e he (n++a) s (by rw[hn,List.append_assoc])
  exact ih a (by simpa using hk) hu h1
theorem subT_unfold {L:List TE} (hs:SrtT L) (hp:ParT L) {e:TE} (he:e∈L):subT L e.nm=e::(kidsT L e.nm).flatMap fun k=>subT L (e.nm++[k.1]):=by
 refine srt_ext (subT_srt hs _) ?_ (fun x=>?_)
 · refine List.pairwise_cons.2 ⟨fun x hx=>?_,?_⟩
   · obtain⟨k,_,hx⟩:=List.mem_flatMap.1 hx
     obtain⟨_,t,ht⟩:=subT_mem.1 hx
     rw[ht,List.append_assoc]
     exact ahd_below _ (by simp)
   · rw[List.flatMap_def,List.pairwise_flatten]
     refine⟨fun l hl=>?_,?_⟩
     · obtain⟨k,_,rfl⟩:=List.mem_map.1 hl
       exact subT_srt hs _
     · rw[List.pairwise_map]
       refine(kidsT_srt hs e.nm).imp (fun {a b} hab x hx y hy=>?_)
       obtain⟨_,t,ht⟩:=subT_mem.1 hx
       obtain⟨_,t',ht'⟩:=subT_mem.1 hy
       rw[ht,ht',List.append_assoc,List.append_assoc,ahd_pre]
       show ahd (a.1::t) (b.1::t')=true
       rw[ahd,if_neg (lt_ne hab)]
       exact hab
 · rw[subT_mem,List.mem_cons,List.mem_flatMap]
   constructor
   · rintro ⟨hx,t,ht⟩
     cases t with
     |nil=>exact .inl (srtT_inj hs hx he (by simpa using ht))
     |cons s t=>
      obtain⟨u,hu,h1⟩:=hp.pre t hx (n:=e.nm++[s]) (by rw[ht,List.append_assoc];rfl)
      exact .inr ⟨(s,u.p),kidsT_mem.2 ⟨u,hu,h1,rfl⟩,subT_mem.2 ⟨hx,t,by rw[ht,List.append_assoc];rfl⟩⟩
   · rintro (rfl|⟨k,_,hx⟩)
     · exact⟨he,[],by simp⟩
     · obtain⟨hx,t,ht⟩:=subT_mem.1 hx
       exact⟨hx,k.1::t,by rw[ht,List.append_assoc];rfl⟩
end Go.Proofs.YtnmejonfdfdegaaGreatDoor.Sr
namespace Go.Proofs.YtnmejonfdfdegaaGreatDoor.Sr
open Go.RowKit Go.Maps Go.WideMaps Rf Go.Proofs.YtnmejonfdfdegaaGreatDoor.Nm St
def renE (g:PN→PN) (x:TE):TE:={x with nm:=g x.nm}
theorem kids_is {L:List TE} (h:SrtT L) {n:PN} {M:MV Nat} (hM:M.Pairwise fun a b=>lt a.1 b.1=true) (hk:∀ k,k∈M ↔ ∃ e∈L,e.nm=n++[k.1]∧e.p=k.2):kidsT L n=M:=by
 have key:∀ {A B:MV Nat},(A.Pairwise fun a b=>lt a.1 b.1=true)→(B.Pairwise fun a b=>lt a.1 b.1=true)→(∀ x,x∈A ↔ x∈B)→A=B:=by
  intro A
  induction A with
  |nil=>
   intro B _ _ h
   cases B with
   |nil=>rfl
   |cons b B=>have:=(h b).2 (by simp);cases this
  |cons a A ih=>
   intro B ha hb h
   cases B with
   |nil=>have:=(h a).1 (by simp);cases this
   |cons b B=>
    obtain⟨a1,a2⟩:=List.pairwise_cons.1 ha
    obtain⟨b1,b2⟩:=List.pairwise_cons.1 hb
    have e:a=b:=by
     rcases List.mem_cons.1 ((h a).1 (by simp)) with e|hab
     · exact e
     · rcases List.mem_cons.1 ((h b).2 (by simp)) with e|hba
       · exact e.symm
       · have:=lt_trans (a1 b hba) (b1 a hab)
         rw[lt_irrefl] at this;cases this
    subst e
    congr 1
    refine ih a2 b2 (fun x=>?_)
    have hx:=h x
    rw[List.mem_cons,List.mem_cons] at hx
    constructor
    · intro hxa
      rcases hx.1 (.inr hxa) with rfl|hxb
      · have:=a1 _ hxa;rw[lt_irrefl] at this;cases this
      · exact hxb
    · intro hxb
      rcases hx.2 (.inr hxb) with rfl|hxa
      · have:=b1 _ hxb;rw[lt_irrefl] at this;cases this
      · exact hxa
 exact key (kidsT_srt h n) hM (fun k=>by rw[kidsT_mem,hk])
theorem ins_rise {k:List UInt8} {n:Nat}:∀ {M:MV Nat},(M.Pairwise fun a b=>lt a.1 b.1=true)→(∀ p∈M,p.1≠k)→(insM k n M).Pairwise fun a b=>lt a.1 b.1=true
 |[],_,_=>List.pairwise_singleton _ _
 |y::r,h,hn=>by
  obtain⟨h1,h2⟩:=List.pairwise_cons.1 h
  rw[insM];split
  · next hy=>
    refine List.pairwise_cons.2 ⟨fun x hx=>?_,h⟩
    rcases List.mem_cons.1 hx with rfl|hx
    · exact hy
    · exact lt_trans hy (h1 x hx)
  · next hy=>
    refine List.pairwise_cons.2 ⟨fun x hx=>?_,ins_rise h2 (fun x hx=>hn x (List.mem_cons_of_mem _ hx))⟩
    rcases mem_ins.1 hx with rfl|hx
    · exact(lt_total (fun e=>hn y (by simp) e.symm)).resolve_left hy
    · exact h1 x hx
theorem del_rise {M:MV Nat} (h:M.Pairwise fun a b=>lt a.1 b.1=true) (k:List UInt8):(delM M k).Pairwise fun a b=>lt a.1 b.1=true:=h.sublist List.filter_sublist
theorem put_rise {M:MV Nat} (h:M.Pairwise fun a b=>lt a.1 b.1=true) (k:List UInt8) (n:Nat):(putM M k n).Pairwise fun a b=>lt a.1 b.1=true:=
 ins_rise (del_rise h k) (fun _ hp=>(mem_del.1 hp).2)
theorem mem_put {M:MV Nat} {k:List UInt8} {n:Nat} {p:List UInt8×Nat}:p∈putM M k n ↔ p=(k,n)∨(p∈M∧p.1≠k):=by rw[putM,mem_ins,mem_del]
theorem own_sub {A C:List TE} (h:A.Sublist C):(ownL A).Sublist (ownL C):=by
 induction h with
 |slnil=>exact .slnil
 |cons a _ ih=>unfold ownL at*;rw[List.flatMap_cons];exact ih.trans (List.sublist_append_right _ _)
 |cons_cons a _ ih=>unfold ownL at*;rw[List.flatMap_cons,List.flatMap_cons];exact ih.append_left _
theorem xob_sub {A C:List TE} (h:A.Sublist C) {b:Nat} (hb:b∈xobL A):b∈xobL C:=by
 obtain⟨x,hx,hb⟩:=List.mem_flatMap.1 hb
 exact List.mem_flatMap.2 ⟨x,h.mem hx,hb⟩
theorem TreeAt.shape {B:Nat} {w w':World} {r:Nat} {T:Tr} (h:TreeAt B w r T) {L':List TE} (g:PN→PN) (q:PN→Bool)
 (hperm:L'.Perm ((T.L.filter fun x=>q x.nm).map (renE g))) (hsrt:SrtT L') (hroot:∀ e,getT [] T.L=some e→getT [] L'=some e)
 (hpar:∀ e∈L',∀ n s,e.nm=n++[s]→∃ u∈L',u.nm=n∧u.m≠none)
 (M:List Nat) (hM:∀ b∈M,∃ u∈T.L,u.m=some b)
 (hmaps:∀ x∈T.L,q x.nm=true→∀ b,x.m=some b→w'.ownsMap Tryz.prog 9 Rv b 1000000 (toD ptr (kidsT L' (g x.nm))))
 (hoth:∀ b∈r::(ownL T.L++xobL T.L),b ∉ M→w'.heap[b]? =w.heap[b]?) (hs:w.heap.size≤w'.heap.size):TreeAt B w' r {T with L:=L'}:=by
 have hmem:∀ x',x'∈L' ↔ ∃ x∈T.L,q x.nm=true∧renE g x=x':=by
  intro x'
  rw[hperm.mem_iff,List.mem_map]
  constructor
  · rintro ⟨x,hx,rfl⟩
    rw[List.mem_filter] at hx
    exact⟨x,hx.1,hx.2,rfl⟩
  · rintro ⟨x,hx,hq,rfl⟩
    exact⟨x,List.mem_filter.2 ⟨hx,hq⟩,rfl⟩
 have hown:(ownL L').Perm (ownL (T.L.filter fun x=>q x.nm)):=by
  have h1:(ownL L').Perm (ownL ((T.L.filter fun x=>q x.nm).map (renE g))):=hperm.flatMap_right ownE
  have h2:ownL ((T.L.filter fun x=>q x.nm).map (renE g))=ownL (T.L.filter fun x=>q x.nm):=by rw[ownL,List.flatMap_map];rfl
  rw[h2] at h1;exact h1
 have hsub:(ownL (T.L.filter fun x=>q x.nm)).Sublist (ownL T.L):=own_sub List.filter_sublist
 have hoin:∀ b,b∈ownL L'→b∈ownL T.L:=fun b hb=>hsub.mem ((hown.mem_iff).1 hb)
 have hxin:∀ b,b∈xobL L'→b∈xobL T.L:=by
  intro b hb
  obtain⟨x',hx',hb⟩:=List.mem_flatMap.1 hb
  obtain⟨x,hx,_,rfl⟩:=(hmem x').1 hx'
  exact List.mem_flatMap.2 ⟨x,hx,hb⟩
 have hMo:∀ b∈M,b∈ownL T.L:=fun b hb=>by obtain⟨u,hu,hub⟩:=hM b hb;exact ownL_mem2 hu hub
 have hin:∀ x∈T.L,∀ b∈ownE x++xob x.at_.xs x.xv,b∈r::(ownL T.L++xobL T.L):=by
  intro x hx b hb
  rw[List.mem_cons,List.mem_append]
  rcases List.mem_append.1 hb with hb|hb
  · exact .inr (.inl (List.mem_flatMap.2 ⟨x,hx,hb⟩))
  · exact .inr (.inr (List.mem_flatMap.2 ⟨x,hx,hb⟩))
 refine⟨?_,fun x' hx'=>?_,?_,fun b hb hbo=>?_,fun b hb=>?_,hsrt,hpar,fun x' hx'=>?_⟩
 · obtain⟨e,h1,h2⟩:=h.root
   exact⟨e,hroot e h1,(hoth r (by simp) (fun hr=>h.r_own (hMo r hr))).trans h2⟩
 · obtain⟨x,hx,hq,rfl⟩:=(hmem x').1 hx'
   have hp:x.p ∉ M:=by
    intro hpm
    obtain⟨u,hu,hub⟩:=hM _ hpm
    have hxu:x=u:=flat_inj h.own_nod hx hu (x:=x.p) (by simp[ownE]) (by simp[ownE,hub])
    subst hxu
    have hnd:=own_nodE h.own_nod hx
    rw[ownE,List.nodup_cons,hub] at hnd
    exact hnd.1 (by simp)
   refine⟨(hoth _ (hin x hx _ (by simp[ownE])) hp).trans (h.node x hx).cells,fun b hb=>hmaps x hx hq b hb,?_⟩
   exact(h.node x hx).xs.kept hs (fun b hb=>hoth b (hin x hx b (by simp[hb])) (fun hbm=>h.xoff b (List.mem_flatMap.2 ⟨x,hx,hb⟩) (List.mem_cons_of_mem _ (hMo b hbm))))
 · show(r::ownL L').Nodup
   rw[List.nodup_cons]
   exact⟨fun hr=>h.r_own (hoin r hr),(hown.nodup_iff).2 (hsub.nodup h.own_nod)⟩
 · rcases List.mem_cons.1 hbo with hbo|hbo
   · exact h.xoff b (hxin b hb) (by rw[hbo];simp)
   · exact h.xoff b (hxin b hb) (List.mem_cons_of_mem _ (hoin b hbo))
 · rw[List.mem_cons,List.mem_append] at hb
   refine h.base b ?_
   rw[List.mem_cons,List.mem_append]
   rcases hb with hb|hb|hb
   · exact .inl hb
   · exact .inr (.inl (hoin b hb))
   · exact .inr (.inr (hxin b hb))
 · obtain⟨x,hx,hq,rfl⟩:=(hmem x').1 hx'
   exact h.kind x hx
def dropT (l:PN) (L:List TE):List TE:=L.filter fun e=> !l.isPrefixOf e.nm
theorem pre_iff {a b:PN}:a.isPrefixOf b=true ↔ a <+:b:=List.isPrefixOf_iff_prefix
theorem dropT_mem {l:PN} {L:List TE} {e:TE}:e∈dropT l L ↔ e∈L∧¬ l <+:e.nm:=by
 rw[dropT,List.mem_filter,Bool.not_eq_true',←Bool.not_eq_true,pre_iff]
theorem pre_snoc {l n:PN} {s:List UInt8}:l <+:n++[s] ↔ l=n++[s]∨l <+:n:=List.prefix_concat_iff
theorem kids_drop {L:List TE} (h:SrtT L) {n0 n:PN} {s:List UInt8} (hn:¬ (n0++[s]) <+:n):kidsT (dropT (n0++[s]) L) n=if n=n0 then delM (kidsT L n) s else kidsT L n:=by
 have hs:SrtT (dropT (n0++[s]) L):=h.sublist List.filter_sublist
 split
 · next e=>
   subst e
   refine kids_is hs (del_rise (kidsT_srt h n) s) (fun k=>?_)
   rw[mem_del,kidsT_mem]
   constructor
   · rintro ⟨⟨e,he,h1,h2⟩,h3⟩
     refine⟨e,dropT_mem.2 ⟨he,?_⟩,h1,h2⟩
     rw[h1,pre_snoc]
     rintro (h4|h4)
     · have:=List.append_cancel_left h4
       injection this with this
       exact h3 this.symm
     · exact hn h4
   · rintro ⟨e,he,h1,h2⟩
     obtain⟨he,hp⟩:=dropT_mem.1 he
     refine⟨⟨e,he,h1,h2⟩,?_⟩
     intro h3
     exact hp (by rw[h1,h3];exact List.prefix_refl _)
 · next hne=>
   refine kids_is hs (kidsT_srt h n) (fun k=>?_)
   rw[kidsT_mem]
   constructor
   · rintro ⟨e,he,h1,h2⟩
     refine⟨e,dropT_mem.2 ⟨he,?_⟩,h1,h2⟩
     rw[h1,pre_snoc]
     rintro (h4|h4)
     · exact hne (List.append_inj' h4 rfl).1.symm
     · exact hn h4
   · rintro ⟨e,he,h1,h2⟩
     exact⟨e,(dropT_mem.1 he).1,h1,h2⟩
theorem TreeAt.del {B:Nat} {w w':World} {r:Nat} {T:Tr} (h:TreeAt B w r T) {n0:PN} {s:List UInt8} {u:TE} {ub:Nat} (hu:u∈T.L) (hun:u.nm=n0) (hub:u.m=some ub)
 (hmap:w'.ownsMap Tryz.prog 9 Rv ub 1000000 (toD ptr (delM (kidsT T.L n0) s)))
 (hoth:∀ b∈r::(ownL T.L++xobL T.L),b≠ub→w'.heap[b]? =w.heap[b]?) (hs:w.heap.size≤w'.heap.size):TreeAt B w' r {T with L:=dropT (n0++[s]) T.L}:=by
 refine h.shape id (fun n=> !(n0++[s]).isPrefixOf n) ?_ (h.srt.sublist List.filter_sublist) ?_ ?_ [ub] ?_ ?_ (fun b hb hbm=>hoth b hb (by simpa using hbm)) hs
 · show List.Perm _ ((dropT (n0++[s]) T.L).map (renE id))
   rw[show (renE id)=id from rfl,List.map_id]
 · intro e he
   obtain⟨h1,h2⟩:=getT_nm he
   have:=getT_of (h.srt.sublist (List.filter_sublist:(dropT (n0++[s]) T.L).Sublist _)) (dropT_mem.2 ⟨h1,by rw[h2];simp⟩)
   rw[h2] at this;exact this
 · intro e he n s' hn
   obtain⟨he,hp⟩:=dropT_mem.1 he
   obtain⟨v,hv,h1,h2⟩:=h.par e he n s' hn
   refine⟨v,dropT_mem.2 ⟨hv,fun hp2=>hp ?_⟩,h1,h2⟩
   rw[hn,←h1]
   exact hp2.trans (List.prefix_append _ _)
 · intro b hb
   rw[List.mem_singleton] at hb
   subst hb;exact⟨u,hu,hub⟩
 · intro x hx hq b hb
   have hnp:¬ (n0++[s]) <+:x.nm:=by
    rw[Bool.not_eq_true',←Bool.not_eq_true,pre_iff] at hq;exact hq
   show World.ownsMap _ _ _ _ _ _ (toD ptr (kidsT (dropT (n0++[s]) T.L) x.nm))
   rw[kids_drop h.srt hnp]
   split
   · next e=>
     have:x=u:=srtT_inj h.srt hx hu (e.trans hun.symm)
     subst this
     obtain rfl:=Option.some.inj (hub.symm.trans hb)
     rw[e];exact hmap
   · next e=>
     have hxu:x≠u:=fun hxu=>e (by rw[hxu];exact hun)
     refine ownsMap_block ((h.node x hx).kids b hb) (hoth b ?_ ?_)
     · have:=ownL_mem2 hx hb
       simp[this]
     · rintro rfl
       exact hxu (flat_inj h.own_nod hx hu (x:=b) (by simp[ownE,hb]) (by simp[ownE,hub]))
def renP (a b:PN) (n:PN):PN:=if a.isPrefixOf n then b++n.drop a.length else n
theorem renP_in {a b t:PN}:renP a b (a++t)=b++t:=by
 rw[renP,if_pos (pre_iff.2 (List.prefix_append _ _)),List.drop_left]
theorem renP_out {a b n:PN} (h:¬ a <+:n):renP a b n=n:=by
 rw[renP,if_neg (by rw[pre_iff];exact h)]
def sortT (L:List TE):List TE:=L.foldr insT []
theorem sortT_perm:∀ L:List TE,(sortT L).Perm L
 |[]=> .refl _
 |a::r=>(insT_perm a _).trans ((sortT_perm r).cons a)
theorem sortT_srt:∀ {L:List TE},L.Pairwise (fun a b=>a.nm≠b.nm)→SrtT (sortT L)
 |[],_=>List.Pairwise.nil
 |a::r,h=>by
  obtain⟨h1,h2⟩:=List.pairwise_cons.1 h
  refine insT_srt (sortT_srt h2) (fun x hx=>?_)
  exact fun e=>h1 x ((sortT_perm r).mem_iff.1 hx) e.symm
def moveT (a b:PN) (L:List TE):List TE:=sortT (L.map (renE (renP a b)))
structure MoveOk (a0 b0:PN) (sa sb:List UInt8) (L:List TE) (n d:TE):Prop where
 mem:n∈L
 name:n.nm=a0++[sa]
 free:getT (b0++[sb]) L=none
 off:¬ (a0++[sa]) <+:(b0++[sb])
 dmem:d∈L
 dname:d.nm=b0
 dm:d.m≠none
section
variable {a0 b0:PN} {sa sb:List UInt8} {L:List TE} {n d:TE}
theorem moveT_mem {a b:PN} {x':TE}:x'∈moveT a b L ↔ ∃ x∈L,renE (renP a b) x=x':=by
 rw[moveT,(sortT_perm _).mem_iff,List.mem_map]
theorem MoveOk.below (k:MoveOk a0 b0 sa sb L n d) (hp:ParT L) {e:TE} (he:e∈L):¬ (b0++[sb]) <+:e.nm:=by
 rintro ⟨t,ht⟩
 obtain⟨u,hu,h1⟩:=hp.pre t he ht.symm
 exact getT_none.1 k.free u hu h1
theorem MoveOk.off0 (k:MoveOk a0 b0 sa sb L n d):¬ (a0++[sa]) <+:b0:=fun h=>k.off (pre_snoc.2 (.inr h))
theorem moveT_srt (k:MoveOk a0 b0 sa sb L n d) (hs:SrtT L) (hp:ParT L):SrtT (moveT (a0++[sa]) (b0++[sb]) L):=by
 refine sortT_srt ?_
 rw[List.pairwise_map]
 refine hs.imp_of_mem (fun {x y} hx hy hxy he=>ahd_ne hxy ?_)
 change renP _ _ x.nm=renP _ _ y.nm at he
 by_cases h1:(a0++[sa]) <+:x.nm <;> by_cases h2:(a0++[sa]) <+:y.nm
 · obtain⟨t,ht⟩:=h1;obtain⟨t',ht'⟩:=h2
   rw[←ht,←ht',renP_in,renP_in] at he
   rw[←ht,←ht',List.append_cancel_left he]
 · obtain⟨t,ht⟩:=h1
   rw[←ht,renP_in,renP_out h2] at he
   exact absurd ⟨t,he⟩ (k.below hp hy)
 · obtain⟨t,ht⟩:=h2
   rw[←ht,renP_in,renP_out h1] at he
   exact absurd ⟨t,he.symm⟩ (k.below hp hx)
 · rw[renP_out h1,renP_out h2] at he;exact he
theorem snoc_split {b t n:PN} {s:List UInt8} (h:b++t=n++[s]):(t=[]∧b=n++[s])∨∃ t0,t=t0++[s]∧b++t0=n:=by
 rcases List.eq_nil_or_concat t with rfl|⟨t0,x,rfl⟩
 · exact .inl ⟨rfl,by simpa using h⟩
 · right
   rw[List.concat_eq_append,←List.append_assoc] at h
   obtain⟨h1,h2⟩:=List.append_inj' h rfl
   injection h2 with h2
   exact⟨t0,by rw[List.concat_eq_append,h2],h1⟩
theorem kids_moved (k:MoveOk a0 b0 sa sb L n d) (hs:SrtT L) (hp:ParT L) (t:PN):kidsT (moveT (a0++[sa]) (b0++[sb]) L) (b0++[sb]++t)=kidsT L (a0++[sa]++t):=by
 refine kids_is (moveT_srt k hs hp) (kidsT_srt hs _) (fun z=>?_)
 rw[kidsT_mem]
 constructor
 · rintro ⟨e,he,h1,h2⟩
   exact⟨_,moveT_mem.2 ⟨e,he,rfl⟩,by show renP _ _ e.nm=_;rw[h1,List.append_assoc (a0++[sa]),renP_in,List.append_assoc (b0++[sb])],h2⟩
 · rintro ⟨e',he',h1,h2⟩
   obtain⟨e,he,rfl⟩:=moveT_mem.1 he'
   change renP _ _ e.nm=_ at h1
   by_cases h3:(a0++[sa]) <+:e.nm
   · obtain⟨t',ht'⟩:=h3
     rw[←ht',renP_in,List.append_assoc (b0++[sb])] at h1
     exact⟨e,he,by rw[←ht',List.append_cancel_left h1,List.append_assoc (a0++[sa])],h2⟩
   · rw[renP_out h3] at h1
     exact absurd ⟨t++[z.1],by rw[h1,List.append_assoc (b0++[sb])]⟩ (k.below hp he)
def kidM (a0 b0:PN) (sa sb:List UInt8) (p:Nat) (m:PN) (M:MV Nat):MV Nat:=
 if m=b0 then putM (if m=a0 then delM M sa else M) sb p else if m=a0 then delM M sa else M
theorem kids_stay (k:MoveOk a0 b0 sa sb L n d) (hs:SrtT L) (hp:ParT L) {x:TE} (hx:x∈L) (hnx:¬ (a0++[sa]) <+:x.nm):
 kidsT (moveT (a0++[sa]) (b0++[sb]) L) x.nm=kidM a0 b0 sa sb n.p x.nm (kidsT L x.nm):=by
 have hin:∀ z:List UInt8×Nat,z∈(if x.nm=a0 then delM (kidsT L x.nm) sa else kidsT L x.nm) ↔ z∈kidsT L x.nm∧¬ (x.nm=a0∧z.1=sa):=by
  intro z
  split
  · next e=>rw [mem_del];simp[e]
  · next e=>simp [e]
 have hr:(if x.nm=a0 then delM (kidsT L x.nm) sa else kidsT L x.nm).Pairwise fun a b=>lt a.1 b.1=true:=by
  split
  · exact del_rise (kidsT_srt hs _) _
  · exact kidsT_srt hs _
 have hfree:∀ z∈kidsT L x.nm,x.nm=b0→z.1≠sb:=by
  intro z hz e h1
  obtain⟨e',he',h2,_⟩:=kidsT_mem.1 hz
  exact getT_none.1 k.free e' he' (by rw[h2,e,h1])
 have hmem:∀ z:List UInt8×Nat,(∃ e∈moveT (a0++[sa]) (b0++[sb]) L,e.nm=x.nm++[z.1]∧e.p=z.2) ↔ (x.nm=b0∧z=(sb,n.p))∨(z∈kidsT L x.nm∧¬ (x.nm=a0∧z.1=sa)):=by
  intro z
  constructor
  · rintro ⟨e',he',h1,h2⟩
    obtain⟨e,he,rfl⟩:=moveT_mem.1 he'
    change renP _ _ e.nm=_ at h1
    change e.p=_ at h2
    by_cases h3:(a0++[sa]) <+:e.nm
    · obtain⟨t,ht⟩:=h3
      rw[←ht,renP_in] at h1
      rcases snoc_split h1 with⟨rfl,h4⟩|⟨t0,_,h4⟩
      · obtain⟨h5,h6⟩:=List.append_inj' h4 rfl
        injection h6 with h6
        have:e=n:=srtT_inj hs he k.mem (by rw[k.name,←ht,List.append_nil])
        exact .inl ⟨h5.symm,Prod.ext h6.symm (by rw[←h2,this])⟩
      · exact absurd ⟨t0,h4⟩ (k.below hp hx)
    · rw[renP_out h3] at h1
      refine .inr ⟨kidsT_mem.2 ⟨e,he,h1,h2⟩,?_⟩
      rintro ⟨h4,h5⟩
      exact h3 (by rw[h1,h4,h5];exact List.prefix_refl _)
  · rintro (⟨h1,rfl⟩|⟨h1,h2⟩)
    · refine⟨_,moveT_mem.2 ⟨n,k.mem,rfl⟩,?_,rfl⟩
      show renP _ _ n.nm=_
      have:= @renP_in (a0++[sa]) (b0++[sb]) []
      rw[List.append_nil,List.append_nil] at this
      rw[k.name,this,h1]
    · obtain⟨e,he,h3,h4⟩:=kidsT_mem.1 h1
      refine⟨_,moveT_mem.2 ⟨e,he,rfl⟩,?_,h4⟩
      show renP _ _ e.nm=_
      rw[renP_out,h3]
      rw[h3,pre_snoc]
      rintro (h5|h5)
      · obtain⟨h6,h7⟩:=List.append_inj' h5 rfl
        injection h7 with h7
        exact h2 ⟨h6.symm,h7.symm⟩
      · exact hnx h5
 rw[kidM]
 split
 · next e=>
   refine kids_is (moveT_srt k hs hp) (put_rise hr _ _) (fun z=>?_)
   rw[hmem,mem_put,hin]
   constructor
   · rintro (rfl|⟨h1,_⟩)
     · exact .inl ⟨e,rfl⟩
     · exact .inr h1
   · rintro (⟨_,rfl⟩|h1)
     · exact .inl rfl
     · exact .inr ⟨h1,hfree z h1.1 e⟩
 · next e=>
   refine kids_is (moveT_srt k hs hp) hr (fun z=>?_)
   rw[hmem,hin]
   constructor
   · exact .inr
   · rintro (⟨h1,_⟩|h1)
     · exact absurd h1 e
     · exact h1
end
theorem TreeAt.parT {B:Nat} {w:World} {r:Nat} {T:Tr} (h:TreeAt B w r T):ParT T.L:=fun e he n s hn=>by
 obtain⟨u,hu,h1,_⟩:=h.par e he n s hn
 exact⟨u,hu,h1⟩
theorem TreeAt.move {B:Nat} {w w':World} {r:Nat} {T:Tr} (h:TreeAt B w r T) {a0 b0:PN} {sa sb:List UInt8} {n u d:TE} {ub db:Nat} (k:MoveOk a0 b0 sa sb T.L n d) (hu:u∈T.L) (hun:u.nm=a0) (hub:u.m=some ub) (hdb:d.m=some db)
 (hmu:w'.ownsMap Tryz.prog 9 Rv ub 1000000 (toD ptr (kidM a0 b0 sa sb n.p a0 (kidsT T.L a0))))
 (hmd:w'.ownsMap Tryz.prog 9 Rv db 1000000 (toD ptr (kidM a0 b0 sa sb n.p b0 (kidsT T.L b0))))
 (hoth:∀ b∈r::(ownL T.L++xobL T.L),b≠ub→b≠db→w'.heap[b]? =w.heap[b]?) (hs:w.heap.size≤w'.heap.size):TreeAt B w' r {T with L:=moveT (a0++[sa]) (b0++[sb]) T.L}:=by
 have hp:=h.parT
 have hS:=moveT_srt k h.srt hp
 have hall:(T.L.filter fun x=>(fun _:PN=>true) x.nm)=T.L:=List.filter_eq_self.2 (fun _ _=>rfl)
 refine h.shape (renP (a0++[sa]) (b0++[sb])) (fun _=>true) (by rw[hall];exact sortT_perm _) hS ?_ ?_ [ub,db] ?_ ?_ (fun b hb hbm=>hoth b hb (by rintro rfl;simp at hbm) (by rintro rfl;simp at hbm)) hs
 · intro e he
   obtain⟨h1,h2⟩:=getT_nm he
   have hr:renE (renP (a0++[sa]) (b0++[sb])) e=e:=by
    obtain⟨nm,ino,tick,at_,data,p,m,xv⟩:=e
    change nm=[] at h2
    subst h2
    show TE.mk (renP _ _ []) _ _ _ _ _ _ _=_
    rw[renP_out (by simp)]
   have:=getT_of hS (moveT_mem.2 ⟨e,h1,hr⟩)
   rw[h2] at this;exact this
 · intro e' he' m s hm
   obtain⟨e,he,rfl⟩:=moveT_mem.1 he'
   change renP _ _ e.nm=_ at hm
   by_cases h3:(a0++[sa]) <+:e.nm
   · obtain⟨t,ht⟩:=h3
     rw[←ht,renP_in] at hm
     rcases snoc_split hm with⟨rfl,h4⟩|⟨t0,h5,h4⟩
     · obtain⟨h6,_⟩:=List.append_inj' h4 rfl
       refine⟨_,moveT_mem.2 ⟨d,k.dmem,rfl⟩,?_,k.dm⟩
       show renP _ _ d.nm=m
       rw[k.dname,renP_out k.off0];exact h6
     · obtain⟨v,hv,h1,h2⟩:=h.par e he (a0++[sa]++t0) s (by rw[←ht,h5,List.append_assoc (a0++[sa])])
       refine⟨_,moveT_mem.2 ⟨v,hv,rfl⟩,?_,h2⟩
       show renP _ _ v.nm=m
       rw[h1,renP_in];exact h4
   · rw[renP_out h3] at hm
     obtain⟨v,hv,h1,h2⟩:=h.par e he m s hm
     refine⟨_,moveT_mem.2 ⟨v,hv,rfl⟩,?_,h2⟩
     show renP _ _ v.nm=m
     rw[renP_out,h1]
     rw[h1]
     exact fun hpm=>h3 (by rw[hm];exact hpm.trans (List.prefix_append _ _))
 · intro b hb
   simp only[List.mem_cons,List.not_mem_nil,or_false] at hb
   rcases hb with rfl|rfl
   · exact⟨u,hu,hub⟩
   · exact⟨d,k.dmem,hdb⟩
 · intro x hx _ b hb
   by_cases h3:(a0++[sa]) <+:x.nm
   · have hxu:x≠u:=by
      rintro rfl
      rw[hun] at h3
      have:=h3.length_le
      rw[List.length_append] at this
      simp only[List.length_cons,List.length_nil] at this
      omega
     have hxd:x≠d:=by
      rintro rfl
      rw[k.dname] at h3
      exact k.off0 h3
     obtain⟨t,ht⟩:=h3
     show World.ownsMap _ _ _ _ _ _ (toD ptr (kidsT (moveT _ _ T.L) (renP _ _ x.nm)))
     have e1:renP (a0++[sa]) (b0++[sb]) x.nm=b0++[sb]++t:=by rw[←ht,renP_in]
     rw[e1,kids_moved k h.srt hp t,ht]
     refine ownsMap_block ((h.node x hx).kids b hb) (hoth b ?_ ?_ ?_)
     · have:=ownL_mem2 hx hb
       simp[this]
     · rintro rfl
       exact hxu (flat_inj h.own_nod hx hu (x:=b) (by simp[ownE,hb]) (by simp[ownE,hub]))
     · rintro rfl
       exact hxd (flat_inj h.own_nod hx k.dmem (x:=b) (by simp[ownE,hb]) (by simp[ownE,hdb]))
   · rw[renP_out h3,kids_stay k h.srt hp hx h3]
     by_cases hxu:x=u
     · subst hxu
       obtain rfl:=Option.some.inj (hub.symm.trans hb)
       rw[hun];exact hmu
     by_cases hxd:x=d
     · subst hxd
       obtain rfl:=Option.some.inj (hdb.symm.trans hb)
       rw[k.dname];exact hmd
     have e1:x.nm≠b0:=fun e=>hxd (srtT_inj h.srt hx k.dmem (e.trans k.dname.symm))
     have e2:x.nm≠a0:=fun e=>hxu (srtT_inj h.srt hx hu (e.trans hun.symm))
     rw[kidM,if_neg e1,if_neg e2]
     refine ownsMap_block ((h.node x hx).kids b hb) (hoth b ?_ ?_ ?_)
     · have:=ownL_mem2 hx hb
       simp[this]
     · rintro rfl
       exact hxu (flat_inj h.own_nod hx hu (x:=b) (by simp[ownE,hb]) (by simp[ownE,hub]))
     · rintro rfl
       exact hxd (flat_inj h.own_nod hx k.dmem (x:=b) (by simp[ownE,hb]) (by simp[ownE,hdb]))
end Go.Proofs.YtnmejonfdfdegaaGreatDoor.Sr
namespace Go.Proofs.YtnmejonfdfdegaaGreatDoor.Sr
open Go.RowKit Rf Go.Proofs.YtnmejonfdfdegaaGreatDoor.Nm St
def deepN (L:List TE) (n:PN):Nat:=(subT L n).foldr (fun e d=>max (e.nm.length - n.length) d) 0
theorem foldr_max_le {f:TE→Nat} {d:Nat}:∀ {A:List TE},(∀ e∈A,f e≤d)→A.foldr (fun e m=>max (f e) m) 0≤d
 |[],_=>Nat.zero_le _
 |a::r,h=>by
  rw[List.foldr_cons]
  exact Nat.max_le.2 ⟨h a (by simp),foldr_max_le (fun e he=>h e (List.mem_cons_of_mem _ he))⟩
theorem le_foldr_max {f:TE→Nat}:∀ {A:List TE} {e:TE},e∈A→f e≤A.foldr (fun e m=>max (f e) m) 0
 |a::r,e,h=>by
  rw[List.foldr_cons]
  rcases List.mem_cons.1 h with rfl|h
  · exact Nat.le_max_left _ _
  · exact Nat.le_trans (le_foldr_max h) (Nat.le_max_right _ _)
theorem deepN_le {L:List TE} {n:PN} {d:Nat} (h:∀ e∈L,∀ t,e.nm=n++t→t.length≤d):deepN L n≤d:=
 foldr_max_le (fun e he=>by
  obtain⟨he,t,ht⟩:=subT_mem.1 he
  have:=h e he t ht
  rw[ht,List.length_append];omega)
theorem le_deepN {L:List TE} {n t:PN} {e:TE} (he:e∈L) (ht:e.nm=n++t):t.length≤deepN L n:=by
 have:=le_foldr_max (f:=fun e=>e.nm.length - n.length) (subT_mem.2 ⟨he,t,ht⟩)
 rw[ht,List.length_append,Nat.add_sub_cancel_left] at this
 exact this
theorem deep_kid {L:List TE} {n:PN} {s:List UInt8} (h:∃ e∈L,e.nm=n++[s]):1+deepN L (n++[s])≤deepN L n:=by
 obtain⟨x,hx,hn⟩:=h
 have h1:1≤deepN L n:=le_deepN hx hn
 have h2:deepN L (n++[s])≤deepN L n - 1:=deepN_le (fun e he t ht=>by
  have:=le_deepN (n:=n) (t:=s::t) he (by rw[ht,List.append_assoc];rfl)
  rw[List.length_cons] at this;omega)
 omega
theorem deep_of {L:List TE} (hp:ParT L) {n:PN} {d:Nat} (h:∀ s,(∃ e∈L,e.nm=n++[s])→1+deepN L (n++[s])≤d):deepN L n≤d:=
 deepN_le (fun e he t ht=>by
  cases t with
  |nil=>exact Nat.zero_le _
  |cons s t=>
   have ht2:e.nm=(n++[s])++t:=by rw[ht,List.append_assoc];rfl
   obtain⟨u,hu,h1⟩:=hp.pre t he ht2
   have h2:=h s ⟨u,hu,h1⟩
   have h3:=le_deepN he ht2
   rw[List.length_cons];omega)
theorem deepN_bound {L:List TE} {n:PN} {M:Nat} (h:∀ e∈L,e.nm.length≤M):deepN L n≤M:=deepN_le (fun e he t ht=>by
 have:=h e he
 rw[ht,List.length_append] at this;omega)
end Go.Proofs.YtnmejonfdfdegaaGreatDoor.Sr
