import Derived.Shelf.SlIter.Nil
import Derived.Shelf.SortM.Plain
import Derived.Shelf.SortM.SortNone
import Derived.RangeFuncStops
import Derived.Ground.GgzProg
import Derived.Ground.SlgmProg
import Derived.Test.YtnmejonfdfdegaaGreatDoorProg
import Derived.Test.YtnmejonfdfdegaaGreatDoorZPRowKit
import Derived.Maps.AppendAt
import Derived.Laws.OwnMore
import Derived.Test.YtnmejonfdfdegaaGreatDoorZPNmWhole
import Derived.Shelf.Lay
import Derived.Test.YtnmejonfdfdegaaGreatDoorZPSrAdd
import Derived.Test.YtnmejonfdfdegaaGreatDoorZPSrOwn
import Derived.Laws.Bits64b
import Derived.Laws.BitsLemmas
set_option linter.unusedSimpArgs false
set_option linter.unusedVariables false
set_option maxHeartbeats 1000000
namespace Go.Proofs
open Go.RowKit Go.Maps Go.Sort Go.Shelf
def Tryz.keysLT_ren:Go.Shelf.Ren:=⟨fun|7=>85|10=>98|n=>n,fun|23=>80|26=>9|3=>74|28=>153|0=>0|27=>152|33=>164|4=>4|n=>n,fun|n=>n⟩
theorem Tryz.keysLT:Go.Proofs.SlLaysZ.n7 Tryz.prog Tryz.keysLT_ren:={
 mixed:=by kernel_rfl
 f7:=⟨Tryz.f85.name,by decide,Tryz.func85.trans (congrArg some (by kernel_rfl))⟩
 f10:=⟨Tryz.f98.name,by decide,Tryz.func98.trans (congrArg some (by kernel_rfl))⟩
 t0:=Tryz.underlying0
 a0:=Tryz.isAgg0
 z0:=Tryz.sizeOf0
 v0:=Tryz.zeroValue0
 t4:=Tryz.underlying4
 a4:=Tryz.isAgg4
 z4:=Tryz.sizeOf4
 v4:=Tryz.zeroValue4
 t23:=Tryz.underlying80
 a23:=Tryz.isAgg80
 z23:=Tryz.sizeOf80
 v23:=Tryz.zeroValue80
 t26:=Tryz.underlying9
 a26:=Tryz.isAgg9
 z26:=Tryz.sizeOf9
 v26:=Tryz.zeroValue9
 t27:=Tryz.underlying152
 a27:=Tryz.isAgg152
 z27:=Tryz.sizeOf152
 v27:=Tryz.zeroValue152
 t28:=Tryz.underlying153
 a28:=Tryz.isAgg153
 z28:=Tryz.sizeOf153
 v28:=Tryz.zeroValue153
 t33:=Tryz.underlying164
 a33:=Tryz.isAgg164
 z33:=Tryz.sizeOf164
 v33:=Tryz.zeroValue164}
def Tryz.sortedLT_ren:Go.Shelf.Ren:=⟨fun|6=>84|8=>96|9=>97|11=>109|13=>111|12=>110|23=>125|24=>126|14=>116|15=>117|16=>118|17=>119|18=>120|19=>121|20=>122|21=>123|22=>124|25=>132|26=>133|27=>134|28=>135|29=>136|30=>137|31=>141|n=>n,fun|26=>9|28=>153|24=>57|0=>0|3=>3|37=>174|48=>34|50=>38|4=>4|40=>181|39=>180|45=>105|5=>5|9=>9|51=>189|55=>193|57=>197|58=>198|33=>164|n=>n,fun|n=>n⟩
theorem Tryz.sortedLT:Go.Proofs.SlLaysZ.n6 Tryz.prog Tryz.sortedLT_ren:={
 mixed:=by kernel_rfl
 f6:=⟨Tryz.f84.name,by decide,Tryz.func84.trans (congrArg some (by kernel_rfl))⟩
 f8:=⟨Tryz.f96.name,by decide,Tryz.func96.trans (congrArg some (by kernel_rfl))⟩
 f11:=⟨Tryz.f109.name,by decide,Tryz.func109.trans (congrArg some (by kernel_rfl))⟩
 t0:=Tryz.underlying0
 a0:=Tryz.isAgg0
 z0:=Tryz.sizeOf0
 v0:=Tryz.zeroValue0
 t24:=Tryz.underlying57
 a24:=Tryz.isAgg57
 z24:=Tryz.sizeOf57
 v24:=Tryz.zeroValue57
 t26:=Tryz.underlying9
 a26:=Tryz.isAgg9
 z26:=Tryz.sizeOf9
 v26:=Tryz.zeroValue9
 t28:=Tryz.underlying153
 a28:=Tryz.isAgg153
 z28:=Tryz.sizeOf153
 v28:=Tryz.zeroValue153
 i26:=by kernel_rfl}
def Tryz.sortLT_ren:Go.Shelf.Ren:=⟨fun|6=>97|8=>111|9=>110|19=>125|20=>126|21=>116|22=>117|23=>118|24=>119|25=>120|26=>121|27=>122|28=>123|29=>124|36=>132|31=>133|32=>134|37=>135|38=>136|39=>137|41=>141|n=>n,fun|27=>57|29=>9|3=>3|32=>174|26=>57|0=>0|44=>34|46=>38|4=>4|36=>181|35=>180|41=>105|5=>5|9=>9|53=>189|57=>193|63=>197|64=>198|n=>n,fun|n=>n⟩
theorem Tryz.sortLT:Go.Proofs.SlLaysM.n6 Tryz.prog Tryz.sortLT_ren:={
 mixed:=by kernel_rfl
 f6:=⟨Tryz.f97.name,by decide,Tryz.func97.trans (congrArg some (by kernel_rfl))⟩
 f8:=Tryz.func111.trans (congrArg some (by kernel_rfl))
 f9:=⟨Tryz.f110.name,by decide,Tryz.func110.trans (congrArg some (by kernel_rfl))⟩
 f19:=Tryz.func125.trans (congrArg some (by kernel_rfl))
 f20:=Tryz.func126.trans (congrArg some (by kernel_rfl))
 f21:=⟨Tryz.f116.name,by decide,Tryz.func116.trans (congrArg some (by kernel_rfl))⟩
 f22:=⟨Tryz.f117.name,by decide,Tryz.func117.trans (congrArg some (by kernel_rfl))⟩
 f23:=⟨Tryz.f118.name,by decide,Tryz.func118.trans (congrArg some (by kernel_rfl))⟩
 f24:=⟨Tryz.f119.name,by decide,Tryz.func119.trans (congrArg some (by kernel_rfl))⟩
 f25:=⟨Tryz.f120.name,by decide,Tryz.func120.trans (congrArg some (by kernel_rfl))⟩
 f26:=⟨Tryz.f121.name,by decide,Tryz.func121.trans (congrArg some (by kernel_rfl))⟩
 f27:=⟨Tryz.f122.name,by decide,Tryz.func122.trans (congrArg some (by kernel_rfl))⟩
 f28:=⟨Tryz.f123.name,by decide,Tryz.func123.trans (congrArg some (by kernel_rfl))⟩
 f29:=⟨Tryz.f124.name,by decide,Tryz.func124.trans (congrArg some (by kernel_rfl))⟩
 f31:=Tryz.func133.trans (congrArg some (by kernel_rfl))
 f32:=Tryz.func134.trans (congrArg some (by kernel_rfl))
 f36:=⟨Tryz.f132.name,by decide,Tryz.func132.trans (congrArg some (by kernel_rfl))⟩
 f37:=⟨Tryz.f135.name,by decide,Tryz.func135.trans (congrArg some (by kernel_rfl))⟩
 f38:=⟨Tryz.f136.name,by decide,Tryz.func136.trans (congrArg some (by kernel_rfl))⟩
 f39:=⟨Tryz.f137.name,by decide,Tryz.func137.trans (congrArg some (by kernel_rfl))⟩
 f41:=⟨Tryz.f141.name,by decide,Tryz.func141.trans (congrArg some (by kernel_rfl))⟩
 t0:=Tryz.underlying0
 a0:=Tryz.isAgg0
 z0:=Tryz.sizeOf0
 v0:=Tryz.zeroValue0
 t3:=Tryz.underlying3
 a3:=Tryz.isAgg3
 z3:=Tryz.sizeOf3
 v3:=Tryz.zeroValue3
 t4:=Tryz.underlying4
 a4:=Tryz.isAgg4
 z4:=Tryz.sizeOf4
 v4:=Tryz.zeroValue4
 t5:=Tryz.underlying5
 a5:=Tryz.isAgg5
 z5:=Tryz.sizeOf5
 v5:=Tryz.zeroValue5
 t9:=Tryz.underlying9
 a9:=Tryz.isAgg9
 z9:=Tryz.sizeOf9
 v9:=Tryz.zeroValue9
 t26:=Tryz.underlying57
 a26:=Tryz.isAgg57
 z26:=Tryz.sizeOf57
 v26:=Tryz.zeroValue57
 t27:=Tryz.underlying57
 a27:=Tryz.isAgg57
 z27:=Tryz.sizeOf57
 v27:=Tryz.zeroValue57
 t29:=Tryz.underlying9
 a29:=Tryz.isAgg9
 z29:=Tryz.sizeOf9
 v29:=Tryz.zeroValue9
 t32:=Tryz.underlying174
 a32:=Tryz.isAgg174
 z32:=Tryz.sizeOf174
 v32:=Tryz.zeroValue174
 t35:=Tryz.underlying180
 a35:=Tryz.isAgg180
 z35:=Tryz.sizeOf180
 v35:=Tryz.zeroValue180
 t36:=Tryz.underlying181
 a36:=Tryz.isAgg181
 z36:=Tryz.sizeOf181
 v36:=Tryz.zeroValue181
 t41:=Tryz.underlying105
 a41:=Tryz.isAgg105
 z41:=Tryz.sizeOf105
 v41:=Tryz.zeroValue105
 t44:=Tryz.underlying34
 a44:=Tryz.isAgg34
 z44:=Tryz.sizeOf34
 v44:=Tryz.zeroValue34
 t46:=Tryz.underlying38
 a46:=Tryz.isAgg38
 z46:=Tryz.sizeOf38
 v46:=Tryz.zeroValue38
 t53:=Tryz.underlying189
 a53:=Tryz.isAgg189
 z53:=Tryz.sizeOf189
 v53:=Tryz.zeroValue189
 t57:=Tryz.underlying193
 a57:=Tryz.isAgg193
 z57:=Tryz.sizeOf193
 v57:=Tryz.zeroValue193
 t63:=Tryz.underlying197
 a63:=Tryz.isAgg197
 z63:=Tryz.sizeOf197
 v63:=Tryz.zeroValue197
 t64:=Tryz.underlying198
 a64:=Tryz.isAgg198
 z64:=Tryz.sizeOf198
 v64:=Tryz.zeroValue198}
theorem Tryz.sortsLT (m:Nat):AnyZ.SortsIn Tryz.prog Tryz.sortedLT_ren Fence.wide m:=
 ⟨fun blk off cap ss W hH hblk hsz=>callsIn_wide.2 (AnyM.slices_Sort_string Tryz.sortLT blk off cap ss W hH hblk hsz),
  fun p cap W=>callsIn_wide.2 (AnyM.slices_Sort_string_none Tryz.sortLT p cap W)⟩
theorem Tryz.keysT (mb:Option Nat) (W:World):Calls Tryz.prog 85 #[.map mb] W fun e w'=>e= .returned (.func (.func 98) #[] #[.pointer (some ⟨W.heap.size,0,none⟩)])∧w'=W.alloc (.cells #[.map mb] 80):=
 (callsIn_wide (n:=5)).1 (AnyZ.keys_in Tryz.keysLT Fence.wide 5 trivial rfl mb W)
theorem Tryz.sortedKeysT {H:Type} (b nn:Nat) (D0:DataW H) (R:Value→Option (DataW H×List MemPlace)) (w:World) (hown:w.ownsMap Tryz.prog 9 R b nn D0) (hmax:Maps.size D0≤maxLen) (hbytes:Maps.size D0*16≤140737488355328):
 Calls Tryz.prog 84 #[.func (.func 98) #[] #[.pointer (some ⟨w.heap.size,0,none⟩)]] (w.alloc (.cells #[.map (some b)] 80)) fun e w'=>∃ (v:Value) (ss:List (List UInt8)),e= .returned v∧ss.Perm (strKeys D0)∧
  w'.ownsRow (w.alloc (.cells #[.map (some b)] 80)).heap.size 9 1 v ss.length ((ss.mergeSort (fun x y=>decide (x≤y))).map encStr)∧(v= .slice none 0 0 ↔ ss=[])∧Below (w.alloc (.cells #[.map (some b)] 80)).heap.size (w.alloc (.cells #[.map (some b)] 80)) w':=by
 have hbl:=hown.lt
 have hseq:SeqGives Fence.wide 2 Tryz.prog 98 #[.pointer (some ⟨w.heap.size,0,none⟩)] encStr (fun ss=>ss.Perm (strKeys D0)) (Maps.size D0) (w.alloc (.cells #[.map (some b)] 80)):=
  AnyZ.keys_gives (ρ:=Tryz.keysLT_ren) {Tryz.keysLT with} Fence.wide _ trivial rfl (by omega) w.heap.size b nn D0 _ (by simp) (by simp) (by
   obtain⟨es,clock,hb,Ft,hs,hD⟩:=hown
   exact⟨es,clock,(Below.heap_alloc _ _ b hbl).trans hb,Ft,hs,hD⟩)
 exact(callsIn_wide (n:=5)).1 (AnyZ.sorted_in Tryz.sortedLT Fence.wide 5 trivial trivial trivial trivial rfl (by omega) (Tryz.sortsLT _) (enters_of Tryz.func97 (by kernel_rfl) rfl) 98 #[.pointer (some ⟨w.heap.size,0,none⟩)] trivial (enters_of Tryz.func98 (by kernel_rfl) rfl) _ _ hmax hbytes _ hseq)
theorem Tryz.sortedNilT (w:World):
 Calls Tryz.prog 84 #[.func (.func 98) #[] #[.pointer (some ⟨w.heap.size,0,none⟩)]] (w.alloc (.cells #[.map none] 80)) fun e w'=>∃ (v:Value) (ss:List (List UInt8)),e= .returned v∧ss=[]∧
  w'.ownsRow (w.alloc (.cells #[.map none] 80)).heap.size 9 1 v ss.length ((ss.mergeSort (fun x y=>decide (x≤y))).map encStr)∧(v= .slice none 0 0 ↔ ss=[])∧Below (w.alloc (.cells #[.map none] 80)).heap.size (w.alloc (.cells #[.map none] 80)) w':=by
 have hseq:SeqGives Fence.wide 2 Tryz.prog 98 #[.pointer (some ⟨w.heap.size,0,none⟩)] encStr (fun ss:List (List UInt8)=>ss=[]) 0 (w.alloc (.cells #[.map none] 80)):=
  AnyZ.keys_gives_nil (ρ:=Tryz.keysLT_ren) {Tryz.keysLT with} Fence.wide _ trivial rfl w.heap.size _ (by simp) (by simp)
 exact(callsIn_wide (n:=5)).1 (AnyZ.sorted_in Tryz.sortedLT Fence.wide 5 trivial trivial trivial trivial rfl (by omega) (Tryz.sortsLT _) (enters_of Tryz.func97 (by kernel_rfl) rfl) 98 #[.pointer (some ⟨w.heap.size,0,none⟩)] trivial (enters_of Tryz.func98 (by kernel_rfl) rfl) _ _ (Nat.zero_le _) (by omega) _ hseq)
end Go.Proofs
namespace Go.Proofs.YtnmejonfdfdegaaGreatDoor.St
open Go.RowKit Go.Maps Go.WideMaps Rf Rd
theorem below_drewN (w:World) (n:Nat):Below w.heap.size w (w.drewN n):=(Below.refl _ _).trans ⟨rfl,rfl,rfl,Nat.le_of_eq (by rw[World.heap_drewN]),fun _ _=>by rw[World.heap_drewN]⟩
end Go.Proofs.YtnmejonfdfdegaaGreatDoor.St
namespace Go.Proofs.YtnmejonfdfdegaaGreatDoor.St
open Go.RowKit Go.Maps Go.WideMaps Rf
section
variable {P:Program} {ops:Array Oper} {Q:Exit→Act→World→Prop} {md:Region.Mode} {S:World→Prop} {k:Nat}
def Held (P:Program) (md:Region.Mode) (ops:Array Oper) (Q:Exit→Act→World→Prop) (S:World→Prop) (k:Nat):Nat→Array Bool→Act→World→Prop
 |0,listed,a,w=>Region.ready md ops listed=[]∧Q .normal a w
 |n+1,listed,a,w=>(Region.ready md ops listed=[]→Q .normal a w)∧
   ∀ j∈Region.ready md ops listed,wpOp P ops Q j (fun b u=>(j≠k→S u)∧Held P md ops Q S k n (listed.setIfInBounds j true) b u) a w
theorem Held.any:∀ (n:Nat) (listed:Array Bool) (a:Act) (w:World),Held P md ops Q S k n listed a w→wpAny P md ops Q n listed a w
 |0,_,_,_,h=>h
 |n+1,_,_,_,h=>⟨h.1,fun j hj=>wpOp_mono (fun b u h'=>Held.any n _ b u h'.2) (h.2 j hj)⟩
def waits (md:Region.Mode) (ops:Array Oper) (k i:Nat):Bool:=
 match ops[k]? with
 |some o=>o.after.toList.any fun e=>Region.binds md e && e.on==i
 |none=>false
theorem held_first {i:Nat} {oi:Oper} {v:Value} (hi:ops[i]? =some oi) (hsel:∀ (j:Nat) (o:Oper) cs b,ops[j]? =some o→o.op≠ .select cs b)
 (hQ:∀ c a w,Q (.panic c) (a.put oi.dst v) w→Q (.panic c) a w) (hik:i≠k) (hwt:waits md ops k i=true):
 ∀ (n:Nat) (listed:Array Bool) (a:Act) (w:World),
   (∀ j oj,ops[j]? =some oj→j≠i→listed.getD j true=false→(∀ e∈oj.after,Region.binds md e=true→e.on≠i)→oi.apart ops oj=true)→
   i∈Region.ready md ops listed→YieldsIf P ops S oi v a→S w→
   Held P md ops Q S k n (listed.setIfInBounds i true) (a.put oi.dst v) w→Held P md ops Q S k (n+1) listed a w
 |n,listed,a,w,hfree,hr,hy,hS,H=>by
  refine⟨fun h=>(by rw[h] at hr;cases hr),fun j hj=>?_⟩
  by_cases hji:j=i
  · subst hji;exact hy.wpOp hi hS ⟨fun _=>hS,H⟩
  · obtain⟨hjun,oj,hoj,hall⟩:=mem_ready.1 hj
    have hnot:∀ e∈oj.after,Region.binds md e=true→e.on≠i:=fun e he hb heq=>by
     have h1:=hall e he hb
     have h0:=(mem_ready.1 hr).1
     rw[heq] at h1
     rcases Nat.lt_or_ge i listed.size with h'|h'
     · simp[h'] at h0 h1;rw[h0] at h1;cases h1
     · simp[Array.getElem?_eq_none h'] at h1
    have hjk:j≠k:=by
     rintro rfl
     unfold waits at hwt
     rw[hoj] at hwt
     obtain⟨e,he,hb⟩:=List.any_eq_true.1 hwt
     rw[Bool.and_eq_true,beq_iff_eq] at hb
     exact hnot e (Array.mem_toList_iff.1 he) hb.1 hb.2
    cases n with
    |zero=>
     have:=ready_mono hj hji
     rw[H.1] at this
     cases this
    |succ n=>
     have h2:=wpOp_putIf hoj (hfree j oj hoj hji hjun hnot) (fun cs b=>hsel i oi cs b hi) (fun cs b=>hsel j oj cs b hoj) hQ hy (H.2 j (ready_mono hj hji))
     refine wpOp_mono (fun b u h3=>⟨h3.2.1,held_first hi hsel hQ hik hwt n (listed.setIfInBounds j true) b u ?_ (ready_mono hr (Ne.symm hji)) h3.1 (h3.2.1 hjk) ?_⟩) h2
     · intro m om hm hmi hun hno
       refine hfree m om hm hmi ?_ hno
       by_cases hjm:j=m
       · subst hjm;exact hjun
       · rw[getD_set_ne true hjm] at hun;exact hun
     · rw[Array.setIfInBounds_comm _ _ hji]
       exact h3.2.2
theorem held_take {i:Nat} {oi:Oper} {v:Value} {n:Nat} {listed:Array Bool} {a:Act} {w:World} (hi:ops[i]? =some oi)
 (hs:Region.noSelect ops=true) (hf:Region.free md ops listed i=true) (hr:(Region.ready md ops listed).contains i=true) (hk:(waits md ops k i && !(i==k))=true)
 (hQ:∀ c a w,Q (.panic c) (a.put oi.dst v) w→Q (.panic c) a w) (hy:YieldsIf P ops S oi v a) (hS:S w)
 (h:Held P md ops Q S k n (listed.setIfInBounds i true) (a.put oi.dst v) w):Held P md ops Q S k (n+1) listed a w:=
 held_first hi (Region.noSelect_spec hs) hQ (by rw[Bool.and_eq_true] at hk;simpa using hk.2) (by rw[Bool.and_eq_true] at hk;exact hk.1) n listed a w (Region.free_spec hi hf) (by simpa using hr) hy hS h
def AllHeld (P:Program) (md:Region.Mode) (ops:Array Oper) (Q:Exit→Act→World→Prop) (S:World→Prop) (k n:Nat) (listed:Array Bool) (a:Act) (w:World) (rs:List Nat):Prop:=
 ∀ i∈rs,wpOp P ops Q i (fun b u=>(i≠k→S u)∧Held P md ops Q S k n (listed.setIfInBounds i true) b u) a w
theorem AllHeld.nil {n:Nat} {listed:Array Bool} {a:Act} {w:World}:AllHeld P md ops Q S k n listed a w []:=fun _ h=>by cases h
theorem AllHeld.cons {n:Nat} {listed:Array Bool} {a:Act} {w:World} {i:Nat} {o:Oper} {rs:List Nat} (ho:ops[i]? =some o)
 (h:∀ K':Act→World→Prop,Shut (∀ a w,(i≠k→S w)→((i≠k→S w)→Held P md ops Q S k n (listed.setIfInBounds i true) a w)→K' a w)→if Region.wanted o (yielded ops a.tmps)=true then Oper.wp P o a w K' Q else K' (a.put o.dst undef) w)
 (hs:AllHeld P md ops Q S k n listed a w rs):AllHeld P md ops Q S k n listed a w (i::rs):=fun j hj=>by
 rcases List.mem_cons.1 hj with rfl|hj
 · exact wpOp_step ho (fun K' hK=>h K' (fun a w hS hW=>hK a w ⟨hS,hW hS⟩))
 · exact hs j hj
theorem held_ready {rs:List Nat} {n:Nat} {listed:Array Bool} {a:Act} {w:World} (hr:Region.ready md ops listed=rs) (hne:rs≠[])
 (h:AllHeld P md ops Q S k n listed a w rs):Held P md ops Q S k (n+1) listed a w:=
 ⟨fun e=>absurd (hr.symm.trans e) hne,by rw[hr];exact h⟩
theorem held_done {listed:Array Bool} {a:Act} {w:World} (hr:Region.ready md ops listed=[]) (h:Q .normal a w):∀ n,Held P md ops Q S k n listed a w
 |0=>⟨hr,h⟩
 |_+1=>⟨fun _=>h,by rw[hr];simp⟩
theorem region_held {id:Nat} {a:Act} {w:World} (hm:P.follows .mixedOrders=true) (hS:S w.drew)
 (h:S w.drew→Held P .any ops Q S k ops.size (Array.replicate ops.size false) a w.drew):(Code.region id ops true).wp P Q a w:=
 wp_region_any hm (Held.any _ _ _ _ (h hS))
end
end Go.Proofs.YtnmejonfdfdegaaGreatDoor.St
namespace Go.Proofs.YtnmejonfdfdegaaGreatDoor.St
open Go.RowKit Go.Maps Go.WideMaps Rf Rd
def Holds (w:World) (x:Value) (m:Nat) (cs:List Value):Prop:=
 (∃ a c,x= .slice (some a) m c∧∀ j u,cs[j]? =some u→w.cell? (a.add j)=some u)∨(x= .slice none 0 0∧m=0∧cs=[])
section
variable {P:Program}
theorem fold_set (cs:List Value):∀ (k:Nat) (acc:Array Value),acc.size=k+cs.length→(cs.zipIdx k).foldl (fun a p=>a.setIfInBounds p.2 p.1) acc=(acc.toList.take k++cs).toArray:=by
 induction cs with
 |nil=>intro k acc h;simp at h;simp;rw[List.take_of_length_le (by simp;omega)]
 |cons c r ih=>
  intro k acc h
  rw[List.zipIdx_cons,List.foldl_cons,ih (k+1) _ (by simp at h ⊢;omega)]
  congr 1
  have hk:k < acc.toList.length:=by simp at h ⊢;omega
  simp only[Array.toList_setIfInBounds]
  rw[List.take_add_one,List.take_set_of_le (Nat.le_refl _)]
  simp at hk
  simp[hk]
end
theorem addr_block (a:Addr) (n:Nat):(a.add n).block=a.block:=by unfold Addr.add;split <;> rfl
theorem Holds.block {w w':World} {x:Value} {m:Nat} {cs:List Value} (h:Holds w x m cs) (hb:∀ a c,x= .slice (some a) m c→w'.heap[a.block]? =w.heap[a.block]?):Holds w' x m cs:=by
 rcases h with⟨a,c,rfl,hc⟩|h
 · exact .inl ⟨a,c,rfl,fun j u hj=>(World.cell?_of_block (by rw[addr_block];exact hb a c rfl)).trans (hc j u hj)⟩
 · exact .inr h
section
variable {P:Program} {o:Oper} {a:Act} {w:World} {K:Act→World→Prop} {Q:Exit→Act→World→Prop}
end
theorem Holds.grown {w w':World} {x:Value} {m:Nat} {cs:List Value} {row:Option Nat} (h:Holds w x m cs) (hg:w.grownBy w' row) (hb:∀ a c,x= .slice (some a) m c→a.block < w.heap.size∧some a.block≠row):Holds w' x m cs:=
 h.block (fun a c e=>hg.block _ (hb a c e).1 (hb a c e).2)
theorem Holds.below {w w':World} {x:Value} {m:Nat} {cs:List Value} {n:Nat} (h:Holds w x m cs) (hg:Below n w w') (hb:∀ a c,x= .slice (some a) m c→a.block < n):Holds w' x m cs:=
 h.block (fun a c e=>hg.block _ (hb a c e))
theorem strKeys_toD {α:Type} (enc:α→Value) (m:MV α):strKeys (toD enc m)=m.map (·.1):=by
 show(m.map fun p=>((Lit.string p.1,DataW.held (enc p.2)):Lit×DataW Value)).map (fun p=>strOf p.1)=_
 rw[List.map_map];rfl
end Go.Proofs.YtnmejonfdfdegaaGreatDoor.St
namespace Go.Proofs.YtnmejonfdfdegaaGreatDoor.Sr
open Go.RowKit Go.Maps Go.WideMaps Rf Go.Proofs.YtnmejonfdfdegaaGreatDoor.Nm St
section
variable {P:Program}
theorem wp_appendN (size:Nat) (hpos:0 < size) {o:Oper} {a:Act} {w:World} {K:Act→World→Prop} {Q:Exit→Act→World→Prop} (s x:Operand) (t:TypeId) (ho:o.op= .call {callee:= .builtin .append,args:= #[s,x],argTypes:= #[t,t]})
 (base:Nat) (e:TypeId) (i:TypeInfo) (z:Value) (bytes:Nat) (ht:P.underlying t=some (.slice e)) (hi:P.info? e=some i) (hz:i.zero=some z)
 (hsize:i.size=size) (hby:i.bytes=bytes) (hzs:z.cells.size=size) (v:Value) (n:Nat) (xs:List Value) (hs:a.eval s=v) (hown:w.ownsRow base e size v n xs)
 (ad:Addr) (m c:Nat) (cs:List Value) (hxv:a.eval x= .slice (some ad) m c) (hx:∀ j u,cs[j]? =some u→w.cell? (ad.add j)=some u) (hl:cs.length=m*size) (h1:∀ u∈cs,u.oneCell'=true) (h63:n+m≤maxLen) (hbytes:(n+m)*bytes≤140737488355328) (hbase:base≤w.heap.size)
 (h:∀ v' w',w'.ownsRow base e size v' (n+m) (xs++cs)→w.grownBy w' v.ownBlock→(v'.ownBlock=v.ownBlock∨v'.ownBlock=some w.heap.size)→K (a.put o.dst v') w'):o.wp P a w K Q:=by
 obtain⟨v',w',hr,h2,h3,_,h4⟩:=run_append_own_at (P:=P) w base t o.type e i z size bytes ht hi hz hsize hby hzs hpos v n xs hown ad m c cs hl hx h1 h63 hbytes hbase
 unfold Oper.wp execOp
 simp only[ho,resolve,invoke,builtin,Sem.run_bind,Sem.run_pure,Result.andThen_ok,List.map_toArray,List.map_cons,List.map_nil,hs,hxv,hr]
 exact h v' w' h2 h3 h4
theorem run_buildOneN (size:Nat) (hp0:0 < size) (hp1:¬ 16777216 < size) (w:World) (t e:TypeId) (i:TypeInfo) (z:Value) (cs:List Value) (ht:P.underlying t=some (.slice e)) (hi:P.info? e=some i) (hz:i.zero=some z) (hs:i.size=size) (hl:cs.length=size):
 (Instr.buildSlice t 1 #[(0,.agg cs.toArray)]).run P w= .ok (.slice (some ⟨w.heap.size,0,none⟩) 1 1) (w.alloc (.cells cs.toArray e)):=by
 simp[Instr.buildSlice,run_underlying ht,sizeOf,typeInfo,hi,hs,zeroValue,hz,Instr.fill,Value.cells,hl]
 rw[if_neg hp1,if_neg (by omega),fold_set cs 0 _ (by simp[hl])]
 simp[newRow,Result.andThen]
theorem wp_oneN (size:Nat) (hp0:0 < size) (hp1:¬ 16777216 < size) {o:Oper} {a:Act} {w:World} {K:Act→World→Prop} {Q:Exit→Act→World→Prop} (t e:TypeId) (x:Operand) (cs:List Value) (i:TypeInfo) (z:Value) (ho:o.op= .buildSlice t 1 #[(0,x)]) (hx:a.eval x= .agg cs.toArray)
 (ht:P.underlying t=some (.slice e)) (hi:P.info? e=some i) (hz:i.zero=some z) (hs:i.size=size) (hl:cs.length=size)
 (h:K (a.put o.dst (.slice (some ⟨w.heap.size,0,none⟩) 1 1)) (w.alloc (.cells cs.toArray e))):o.wp P a w K Q:=by
 have hrun:=run_buildOneN size hp0 hp1 w t e i z cs ht hi hz hs hl
 unfold Oper.wp
 have hp:(#[(0,x)]:Array (Nat×Operand)).map (fun p=>(p.1,a.eval p.2))= #[(0,.agg cs.toArray)]:=by simp[hx]
 simp[execOp,ho,hx,hrun,Result.andThen]
 exact h
end
def pathN (n:PN):List UInt8:=if pathOf n=[] then [47] else pathOf n
def vcells (e:TE) (xv:Value):List Value:= .string ⟨(pathN e.nm).toArray⟩::(e.at_.cells xv++[.string ⟨e.data.toArray⟩,.int .u64 (e.ino:Int),.int .i64 e.tick])
def vrows (R:List (TE×Value)):List Value:=R.flatMap fun p=>vcells p.1 p.2
theorem vcells_len (e:TE) (xv:Value):(vcells e xv).length=11:=rfl
theorem vrows_append (A B:List (TE×Value)):vrows (A++B)=vrows A++vrows B:=by rw[vrows,List.flatMap_append];rfl
abbrev VnT:TypeId:=110
def zeroVn:Value:= .agg (.string ⟨#[]⟩::(zeroA.cells (.slice none 0 0)++[.string ⟨#[]⟩,.int .u64 0,.int .i64 0])).toArray
theorem infoVn:(Tryz.prog.info? VnT).map (fun i=>(i.zero,i.size,i.bytes))=some (some zeroVn,11,112):=by kernel_rfl
abbrev MkT:TypeId:=80
theorem kid_names {L:List TE} (hs:SrtT L) (n:PN) {ss:List (List UInt8)} (h:ss.Perm (strKeys (toD ptr (kidsT L n)))):ss.mergeSort (fun x y=>decide (x≤y))=(kidsT L n).map (·.1):=by
 rw[strKeys_toD] at h
 rw[mergeSort_of_perm h]
 refine List.mergeSort_of_pairwise ?_
 rw[List.pairwise_map]
 refine(kidsT_srt hs n).imp (fun {a b} hab=>?_)
 rw[decide_eq_true_iff]
 exact List.le_of_lt (lt_iff.1 hab)
def KeysPost (W:World) (K:List (List UInt8)) (x:Ending) (w':World):Prop:=
 ∃ v,x= .returned v∧w'.ownsRow W.heap.size 9 1 v K.length (K.map sv)∧Below W.heap.size W w'
theorem kids_sorted {B:Nat} {w:World} {r:Nat} {T:Tr} (h:TreeAt B w r T) {e:TE} (he:e∈T.L) (hl:(kidsT T.L e.nm).length≤1000000):
 Calls Tryz.prog 84 #[.func (.func 98) #[] #[.pointer (some ⟨w.heap.size,0,none⟩)]] (w.alloc (.cells #[mapV e.m] MkT)) (KeysPost (w.alloc (.cells #[mapV e.m] MkT)) ((kidsT T.L e.nm).map (·.1))):=by
 cases hm:e.m with
 |some b=>
  have SK:=Tryz.sortedKeysT b 1000000 _ _ w ((h.node e he).kids b hm) (by rw[toD_size];unfold maxLen;omega) (by rw[toD_size];omega)
  refine SK.mono ?_
  rintro x w' ⟨v,ss,rfl,hp,ho,_,hb⟩
  have hk:=kid_names h.srt e.nm hp
  have hlen:ss.length=(kidsT T.L e.nm).length:=by
   have:=congrArg List.length hk
   rw[List.length_mergeSort,List.length_map] at this;exact this
  rw[hk,hlen] at ho
  refine⟨v,rfl,?_,hb⟩
  rw[List.length_map]
  exact ho
 |none=>
  have hk:kidsT T.L e.nm=[]:=by
   rw[List.eq_nil_iff_forall_not_mem]
   intro k hk
   obtain⟨x,hx,h1,_⟩:=kidsT_mem.1 hk
   obtain⟨u,hu,h2,h3⟩:=h.par x hx _ _ h1
   rw[srtT_inj h.srt hu he h2] at h3
   exact h3 hm
  rw[hk]
  refine(Tryz.sortedNilT w).mono ?_
  rintro x w' ⟨v,ss,rfl,rfl,ho,_,hb⟩
  rw[List.mergeSort_nil] at ho
  exact⟨v,rfl,ho,hb⟩
end Go.Proofs.YtnmejonfdfdegaaGreatDoor.Sr
namespace Go.Proofs.YtnmejonfdfdegaaGreatDoor.Sh
def rot (n:Nat) (x:Int):Int:=bits .or .u32 (x / 2 ^ n) (x*2 ^ (32 - n) % 4294967296)
abbrev xor (a b:Int):Int:=bits .xor .u32 a b
abbrev and (a b:Int):Int:=bits .and .u32 a b
abbrev add (a b:Int):Int:=(a+b) % 4294967296
def tri (a b c:Nat) (x:Int):Int:=xor (xor (rot a x) (rot b x)) (rot c x)
def sg0 (x:Int):Int:=xor (xor (rot 7 x) (rot 18 x)) (x / 8)
def sg1 (y:Int):Int:=xor (xor (rot 17 y) (rot 19 y)) (y / 1024)
def nxt (W:List Int) (t:Nat):Int:=add (add (add (sg1 (W.getD (t - 2) 0)) (W.getD (t - 7) 0)) (sg0 (W.getD (t - 15) 0))) (W.getD (t - 16) 0)
def sch (W:List Int):Nat→List Int
 |0=>W
 |k+1=>sch W k++[nxt (sch W k) (16+k)]
structure V8 where
 (a b c d e f g h:Int)
deriving DecidableEq
def V8.list (v:V8):List Int:=[v.a,v.b,v.c,v.d,v.e,v.f,v.g,v.h]
def inv (x:Int):Int:=bits .xor .u32 IntKind.u32.max x
def t1 (v:V8) (k x:Int):Int:=(v.h+tri 6 11 25 v.e+xor (and v.e v.f) (and (inv v.e) v.g)+k+x) % 4294967296
def t2 (v:V8):Int:=add (tri 2 13 22 v.a) (xor (xor (and v.a v.b) (and v.a v.c)) (and v.b v.c))
def rnd (v:V8) (k x:Int):V8:=⟨add (t1 v k x) (t2 v),v.a,v.b,v.c,add v.d (t1 v k x),v.e,v.f,v.g⟩
def rnds (K W:List Int) (v:V8):Nat→V8
 |0=>v
 |t+1=>rnd (rnds K W v t) (K.getD t 0) (W.getD t 0)
def V8.add (u v:V8):V8:=⟨Sh.add u.a v.a,Sh.add u.b v.b,Sh.add u.c v.c,Sh.add u.d v.d,Sh.add u.e v.e,Sh.add u.f v.f,Sh.add u.g v.g,Sh.add u.h v.h⟩
def num (B:List UInt8):Int:=B.foldl (fun x b=>x*256+(b.toNat:Int)) 0
def wrd (B:List UInt8) (j:Nat):Int:=num ((B.drop (4*j)).take 4)
def wrds (B:List UInt8):List Int:=(List.range 16).map (wrd B)
def K64:List Int:=[0x428a2f98,0x71374491,0xb5c0fbcf,0xe9b5dba5,0x3956c25b,0x59f111f1,0x923f82a4,0xab1c5ed5,
 0xd807aa98,0x12835b01,0x243185be,0x550c7dc3,0x72be5d74,0x80deb1fe,0x9bdc06a7,0xc19bf174,
 0xe49b69c1,0xefbe4786,0x0fc19dc6,0x240ca1cc,0x2de92c6f,0x4a7484aa,0x5cb0a9dc,0x76f988da,
 0x983e5152,0xa831c66d,0xb00327c8,0xbf597fc7,0xc6e00bf3,0xd5a79147,0x06ca6351,0x14292967,
 0x27b70a85,0x2e1b2138,0x4d2c6dfc,0x53380d13,0x650a7354,0x766a0abb,0x81c2c92e,0x92722c85,
 0xa2bfe8a1,0xa81a664b,0xc24b8b70,0xc76c51a3,0xd192e819,0xd6990624,0xf40e3585,0x106aa070,
 0x19a4c116,0x1e376c08,0x2748774c,0x34b0bcb5,0x391c0cb3,0x4ed8aa4a,0x5b9cca4f,0x682e6ff3,
 0x748f82ee,0x78a5636f,0x84c87814,0x8cc70208,0x90befffa,0xa4506ceb,0xbef9a3f7,0xc67178f2]
def H0:V8:=⟨0x6a09e667,0xbb67ae85,0x3c6ef372,0xa54ff53a,0x510e527f,0x9b05688c,0x1f83d9ab,0x5be0cd19⟩
def blk (h:V8) (B:List UInt8):V8:=h.add (rnds K64 (sch (wrds B) 48) h 64)
def run (h:V8) (L:List UInt8):V8:=if _h:64≤L.length then run (blk h (L.take 64)) (L.drop 64) else h
termination_by L.length
decreasing_by rw[List.length_drop];omega
def rest (L:List UInt8):List UInt8:=L.drop (L.length / 64*64)
def byteOf (v:V8) (i:Nat):UInt8:=UInt8.ofNat ((v.list.getD (i / 4) 0 / 2 ^ (24 - 8*(i % 4))).toNat)
def bytesOf (v:V8):List UInt8:=(List.range 32).map (byteOf v)
def In (x:Int):Prop:=0≤x∧x < 4294967296
theorem In.bits (op:BinOp) (a b:Int):In (bits op .u32 a b):=by
 have h:∀ n:Int,In (IntKind.u32.wrap n):=fun n=>by rw[IntKind.wrap_u32];exact⟨by omega,by omega⟩
 exact h _
theorem In.wrap (n:Int):In (IntKind.u32.wrap n):=by rw[IntKind.wrap_u32];exact⟨by omega,by omega⟩
theorem In.mod (n:Int):In (n % 4294967296):=⟨by omega,by omega⟩
theorem In.add (a b:Int):In (add a b):=In.mod _
structure V8.In (v:V8):Prop where
 (a:Sh.In v.a) (b:Sh.In v.b) (c:Sh.In v.c) (d:Sh.In v.d) (e:Sh.In v.e) (f:Sh.In v.f) (g:Sh.In v.g) (h:Sh.In v.h)
end Go.Proofs.YtnmejonfdfdegaaGreatDoor.Sh
