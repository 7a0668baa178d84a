import Derived.Test.YtnmejonfdfdegaaGreatDoorZPRtClear
import Derived.Test.YtnmejonfdfdegaaGreatDoorZPSrDoes
import Derived.Test.YtnmejonfdfdegaaGreatDoorZPRtList
import Derived.Test.YtnmejonfdfdegaaGreatDoorZPRtStat
import Derived.Test.YtnmejonfdfdegaaGreatDoorZPRtTwin
import Derived.BigQuiet
import Derived.Deep.QuietTactic
import Derived.Test.YtnmejonfdfdegaaGreatDoorZPNmWhole
import Derived.Test.YtnmejonfdfdegaaGreatDoorZPRtMake
import Derived.Test.YtnmejonfdfdegaaGreatDoorZPSrNew
import Derived.Test.YtnmejonfdfdegaaGreatDoorZPSrValue
import Derived.Test.YtnmejonfdfdegaaGreatDoorZPSrChanged
import Derived.Test.YtnmejonfdfdegaaGreatDoorZPSrTwin
set_option linter.unusedSimpArgs false
set_option linter.unusedVariables false
set_option maxHeartbeats 16000000
set_option maxRecDepth 100000
namespace Go.Proofs.YtnmejonfdfdegaaGreatDoor.Sr
open Go.RowKit Go.Maps Go.WideMaps Rf Go.Proofs.YtnmejonfdfdegaaGreatDoor.Nm St
open Lib (hid)
theorem attrsA_bare (p:List UInt8) (L:List TE):attrsA p (L.map bare)=attrsA p L:=by
 rw[attrsA,attrsA,findN_bare]
 cases findN p L <;> rfl
theorem listE_bare (p:List UInt8) (L:List TE):listE p (L.map bare)=listE p L:=by
 rw[listE,listE,getT_bare]
 cases getT (splitL p) L <;> rfl
theorem namesT_bare (L:List TE) (l:PN):namesT (L.map bare) l=namesT L l:=by
 rw[namesT,namesT,kids_names,kids_names,List.filterMap_map];rfl
theorem listN_bare (p:List UInt8) (L:List TE):listN p (L.map bare)=listN p L:=by
 rw[listN,listN,listE_bare,namesT_bare]
theorem kids_few {k:Nat} {T:Tr} (g:Bd T k) (hk:k≤900):∀ e∈T.L,(kidsT T.L e.nm).length≤1000000:=by
 intro e _
 have h1:(kidsT T.L e.nm).length≤T.L.length:=by rw[kidsT];exact List.length_filterMap_le _ _
 have:=g.b.good.len;omega
theorem putAll_size2:∀ (vs:List Value) (o:Nat) (cur:Array Value),(putAll cur o vs).size=cur.size
 |[],_,_=>rfl
 |v::r,o,cur=>by
  show(putAll (cur.setIfInBounds o v) (o+1) r).size=_
  rw[putAll_size2 r];simp
theorem infoSt1 (S:SE):(Tryz.prog.info? 40).map (·.size)=some S.stat.toArray.size:=by show _=some 4;kernel_rfl
theorem infoSt2 (S:SE):(Tryz.prog.info? 44).map (·.size)=some S.stat.toArray.size:=by show _=some 4;kernel_rfl
theorem asked_any (B k:Nat) (w:World) (r q:Nat) (T:Tr) (v:Value) (R:List RN) (p:List UInt8) (h:Pr B w r T q v R T.bare) (g0:Bd T k) (hk:k≤900) (hT:∀ w':World,Below B w w'→Tabs w') (hp:p.length≤140737488351232):
 Calls Tryz.prog 21 #[ptr r,ptr q,.string ⟨p.toArray⟩] w fun e w'=>e= .returned (.bool true)∧Below w.heap.size w w':=by
 have hB:=h.size
 have hgf:=goodF_of h.t g0.b.good
 have KT:Hid (∀ w':World,Below w.heap.size w w'→Tabs w'):=hid (fun w' hb=>hT w' (hb.mono hB))
 have K1:Hid (∀ w':World,Below w.heap.size w w'→Calls Tryz.prog 10 #[ptr r,.string ⟨p.toArray⟩] w' fun e w2=>e= .returned (.tuple #[.agg (statN p T.L).stat.toArray,.int .i64 (findE p T.L)])∧Below w'.heap.size w' w2):=hid (fun w' hb=>stat_any B w' r T p (by omega) (h.t.below hb))
 have K2:Hid (∀ w':World,Below w.heap.size w w'→Calls Tryz.prog 11 #[ptr q,.string ⟨p.toArray⟩] w' fun e w2=>e= .returned (.tuple #[.agg (statN p T.L).stat.toArray,.int .i64 (findE p T.L)])∧Below w'.heap.size w' w2):=hid (fun w' hb=>by
  have:=rstat_any B w' q v R T.bare k p (KT.out w' hb) (by omega) hgf (by omega) (h.f.below hb)
  rw[show T.bare.L=T.L.map bare from rfl,statN_bare,findE_bare] at this;exact this)
 have K3:Hid (∀ w':World,Below w.heap.size w w'→Calls Tryz.prog 55 #[ptr r,.string ⟨p.toArray⟩] w' (AttrsO w' p T.L)):=hid (fun w' hb=>attrs_any B w' r T p (by omega) g0.b.good.att (h.t.below hb))
 have K4:Hid (∀ w':World,Below w.heap.size w w'→Calls Tryz.prog 56 #[ptr q,.string ⟨p.toArray⟩] w' (RAttrsP w' p T.L)):=hid (fun w' hb=>by
  have:=rattrs_any B w' q v R T.bare k p (KT.out w' hb) (by omega) hgf (by omega) (h.f.below hb)
  rw[show T.bare.L=T.L.map bare from rfl] at this
  have he:RAttrsP w' p (T.L.map bare)=RAttrsP w' p T.L:=by funext e w2;rw[RAttrsP,RAttrsP,attrsA_bare,findE_bare]
  rw[he] at this;exact this)
 have K5:Hid (∀ w':World,Below w.heap.size w w'→Calls Tryz.prog 57 #[ptr r,.string ⟨p.toArray⟩] w' (ListPost w' p T.L)):=hid (fun w' hb=>list_any B w' r T p (by omega) (kids_few g0 hk) (h.t.below hb))
 have K6:Hid (∀ w':World,Below w.heap.size w w'→Calls Tryz.prog 58 #[ptr q,.string ⟨p.toArray⟩] w' (ListPost w' p T.L)):=hid (fun w' hb=>by
  have:=rlist_any B w' q v R T.bare k p (KT.out w' hb) (by omega) hgf (by omega) (h.f.below hb)
  rw[show T.bare.L=T.L.map bare from rfl] at this
  have he:ListPost w' p (T.L.map bare)=ListPost w' p T.L:=by funext e w2;rw[ListPost,ListPost,listE_bare,listN_bare]
  rw[he] at this;exact this)
 unfold RAttrsP at K4
 unfold AttrsO at K3
 unfold ListPost at K5 K6
 obtain⟨S,hS⟩:∃ S,S=statN p T.L:=⟨_,rfl⟩
 obtain⟨A,hA⟩:∃ A,A=attrsA p T.L:=⟨_,rfl⟩
 obtain⟨ns,hn⟩:∃ ns,ns=listN p T.L:=⟨_,rfl⟩
 obtain⟨fc,hfc⟩:∃ fc,fc=findE p T.L:=⟨_,rfl⟩
 obtain⟨lc,hlc⟩:∃ lc,lc=listE p T.L:=⟨_,rfl⟩
 simp only[←hS,←hA,←hn,←hfc,←hlc] at K1 K2 K3 K4 K5 K6
 have ONS:Hid (S.stat.toArray.all (·.oneCell')=true):=hid (all_oneCell_toArray (by
  intro u hu
  simp only[SE.stat,List.mem_cons,List.not_mem_nil,or_false] at hu
  rcases hu with rfl|rfl|rfl|rfl <;> rfl))
 clear hS hA hn hfc hlc hgf hT h g0 hB KT
 unfold ptr at*
 go_enter Tryz.func21,Tryz.ntmps21
 go_wp2_with fail
 refine(K1.out w (Below.refl _ _)).mono ?_
 rintro ex w1 ⟨rfl,hb1⟩
 have HB1:=hid hb1
 clear hb1 K1
 go_wp2_with (first
  |(refine Sh.wpList_store_new rfl rfl 40 (.tmp 7) (.tmp 27) rfl S.stat.toArray rfl rfl (infoSt1 S) rfl ONS.out ?_
    intro w2 hq2 hb2 hs2
    have HQ2:=hid hq2
    have HB2:Hid (Below w.heap.size w w2):=hid (HB1.out.trans (hb2.mono HB1.out.size))
    clear hq2 hb2 hs2)
  |fail)
 refine(K2.out w2 HB2.out).mono ?_
 rintro ex w3 ⟨rfl,hb3⟩
 have HB3:Hid (Below w.heap.size w w3):=hid (HB2.out.trans (hb3.mono HB2.out.size))
 have HQ3:=hid ((hb3.block _ (lt_of_heap HQ2.out)).trans HQ2.out)
 clear hb3 K2
 go_wp2_with (first
  |(refine Sh.wpList_store_new rfl rfl 44 (.tmp 9) (.tmp 33) rfl S.stat.toArray rfl rfl (infoSt2 S) rfl ONS.out ?_
    intro w4 hq4 hb4 hs4
    have HU4:=hid hq4
    have HQ4:=hid ((hb4.block _ (lt_of_heap HQ3.out)).trans HQ3.out)
    have HB4:Hid (Below w.heap.size w w4):=hid (HB3.out.trans (hb4.mono HB3.out.size))
    clear hq4 hb4 hs4)
  |fail)
 refine(K3.out w4 HB4.out).mono ?_
 rintro ex w5 ⟨va,rfl,ho5,hx5,hb5⟩
 have HO5:=hid ho5;have HX5:=hid hx5
 have HB5:Hid (Below w.heap.size w w5):=hid (HB4.out.trans (hb5.mono HB4.out.size))
 have HQ5:=hid ((hb5.block _ (lt_of_heap HQ4.out)).trans HQ4.out)
 have HU5:=hid ((hb5.block _ (lt_of_heap HU4.out)).trans HU4.out)
 have ON5:=hid (atOne A (xs_one hx5))
 clear hb5 ho5 hx5 K3
 go_wp2_with (first
  |(refine Sh.wpList_store_new rfl rfl AtT (.tmp 11) (.tmp 39) rfl (A.cells va).toArray rfl rfl (infoAt _ _) rfl ON5.out ?_
    intro w6 hq6 hb6 hs6
    have HA6:=hid hq6
    have HK6:Hid (Below w5.heap.size w5 w6):=hid hb6
    have HQ6:=hid ((hb6.block _ (lt_of_heap HQ5.out)).trans HQ5.out)
    have HU6:=hid ((hb6.block _ (lt_of_heap HU5.out)).trans HU5.out)
    have HB6:Hid (Below w.heap.size w w6):=hid (HB5.out.trans (hb6.mono HB5.out.size))
    clear hq6 hb6 hs6)
  |fail)
 refine(K4.out w6 HB6.out).mono ?_
 rintro ex w7 ⟨vb,rfl,hx7,hf7,hb7⟩
 have HX7:=hid hx7
 have HK7:Hid (Below w5.heap.size w5 w7):=hid (HK6.out.trans (hb7.mono HK6.out.size))
 have HB7:Hid (Below w.heap.size w w7):=hid (HB6.out.trans (hb7.mono HB6.out.size))
 have HQ7:=hid ((hb7.block _ (lt_of_heap HQ6.out)).trans HQ6.out)
 have HU7:=hid ((hb7.block _ (lt_of_heap HU6.out)).trans HU6.out)
 have HA7:=hid ((hb7.block _ (lt_of_heap HA6.out)).trans HA6.out)
 have ON7:=hid (atOne A (xs_one hx7))
 clear hb7 hx7 hf7 K4
 go_wp2_with (first
  |(refine Sh.wpList_store_new rfl rfl AtR (.tmp 13) (.tmp 45) rfl (A.cells vb).toArray rfl rfl (infoAtR _ _) rfl ON7.out ?_
    intro w8 hq8 hb8 hs8
    have HC8:=hid hq8
    have HK8:Hid (Below w5.heap.size w5 w8):=hid (HK7.out.trans (hb8.mono HK7.out.size))
    have HX8:Hid (XsAt w8 vb A.xs):=hid (HX7.out.kept hb8.size (fun b hb=>hb8.block b (HX7.out.lt b hb)))
    have HQ8:=hid ((hb8.block _ (lt_of_heap HQ7.out)).trans HQ7.out)
    have HU8:=hid ((hb8.block _ (lt_of_heap HU7.out)).trans HU7.out)
    have HA8:=hid ((hb8.block _ (lt_of_heap HA7.out)).trans HA7.out)
    have HB8:Hid (Below w.heap.size w w8):=hid (HB7.out.trans (hb8.mono HB7.out.size))
    clear hq8 hb8 hs8)
  |fail)
 refine(K5.out w8 HB8.out).mono ?_
 rintro ex w9 ⟨vl,rfl,ho9,hb9⟩
 have HL9:=hid ho9;have HK9:=hid hb9
 have HB9:Hid (Below w.heap.size w w9):=hid (HB8.out.trans (hb9.mono HB8.out.size))
 clear hb9 ho9
 go_wp2_with fail
 refine(K5.out w9 HB9.out).mono ?_
 rintro ex w10 ⟨vm,rfl,ho10,hb10⟩
 have HM10:=hid ho10;have HK10:=hid hb10
 have HB10:Hid (Below w.heap.size w w10):=hid (HB9.out.trans (hb10.mono HB9.out.size))
 clear hb10 ho10 K5
 go_wp2_with fail
 refine(K6.out w10 HB10.out).mono ?_
 rintro ex w11 ⟨vk,rfl,ho11,hb11⟩
 have HN11:=hid ho11;have HK11:=hid hb11
 have HB11:Hid (Below w.heap.size w w11):=hid (HB10.out.trans (hb11.mono HB10.out.size))
 have HK811:Hid (Below w8.heap.size w8 w11):=hid ((HK9.out.trans (HK10.out.mono HK9.out.size)).trans (hb11.mono (Nat.le_trans HK9.out.size HK10.out.size)))
 obtain⟨la,lcp,rfl⟩:=rowS_slice HL9.out
 obtain⟨ma,mcp,rfl⟩:=rowS_slice HM10.out
 obtain⟨ka,kcp,rfl⟩:=rowS_slice HN11.out
 clear hb11 ho11 K6
 have hq:=(HK811.out.block _ (lt_of_heap HQ8.out)).trans HQ8.out
 have hu:=(HK811.out.block _ (lt_of_heap HU8.out)).trans HU8.out
 have HA11:=hid ((HK811.out.block _ (lt_of_heap HA8.out)).trans HA8.out)
 have HC11:=hid ((HK811.out.block _ (lt_of_heap HC8.out)).trans HC8.out)
 have HXA:Hid (XsAt w11 va A.xs):=hid (HX5.out.kept (Nat.le_trans HK8.out.size HK811.out.size) (fun b hb=>(HK811.out.block b (Nat.lt_of_lt_of_le (HX5.out.lt b hb) HK8.out.size)).trans (HK8.out.block b (HX5.out.lt b hb))))
 have HXB:Hid (XsAt w11 vb A.xs):=hid (HX8.out.kept HK811.out.size (fun b hb=>HK811.out.block b (HX8.out.lt b hb)))
 have AL:=hid (alike18_any w11 A va vb HXA.out HXB.out)
 have HRA:Hid (w11.rangeAt w5.heap.size 0 (A.cells va)):=hid (fun j z hz=>by rw[cell_of_heap HA11.out,List.getElem?_toArray,Nat.zero_add];exact hz)
 have HRC:Hid (w11.rangeAt w7.heap.size 0 (A.cells vb)):=hid (fun j z hz=>by rw[cell_of_heap HC11.out,List.getElem?_toArray,Nat.zero_add];exact hz)
 have s0:w11.cell? ⟨w1.heap.size,0,none⟩=some (.int .u8 (S.node:Int)):=cell_of_heap hq
 have s1:w11.cell? ⟨w1.heap.size,1,none⟩=some (.int .i64 S.size):=cell_of_heap hq
 have s2:w11.cell? ⟨w1.heap.size,2,none⟩=some (.int .u64 (S.ino:Int)):=cell_of_heap hq
 have s3:w11.cell? ⟨w1.heap.size,3,none⟩=some (.int .i64 S.tick):=cell_of_heap hq
 have r0:w11.cell? ⟨w3.heap.size,0,none⟩=some (.int .u8 (S.node:Int)):=cell_of_heap hu
 have r1:w11.cell? ⟨w3.heap.size,1,none⟩=some (.int .i64 S.size):=cell_of_heap hu
 have r2:w11.cell? ⟨w3.heap.size,2,none⟩=some (.int .u64 (S.ino:Int)):=cell_of_heap hu
 have r3:w11.cell? ⟨w3.heap.size,3,none⟩=some (.int .i64 S.tick):=cell_of_heap hu
 clear hq hu
 have ka0:w11.cell? ⟨w5.heap.size,0,none⟩=some (.int .u8 (A.node:Int)):=cell_of_heap HA11.out
 have ka1:w11.cell? ⟨w5.heap.size,1,none⟩=some (.int .u32 (A.mode:Int)):=cell_of_heap HA11.out
 have ka2:w11.cell? ⟨w5.heap.size,2,none⟩=some (.int .u32 (A.uid:Int)):=cell_of_heap HA11.out
 have ka3:w11.cell? ⟨w5.heap.size,3,none⟩=some (.int .u32 (A.gid:Int)):=cell_of_heap HA11.out
 have ka4:w11.cell? ⟨w5.heap.size,4,none⟩=some (.int .i64 A.mtime):=cell_of_heap HA11.out
 have ka5:w11.cell? ⟨w5.heap.size,5,none⟩=some (.string ⟨A.target.toArray⟩):=cell_of_heap HA11.out
 have ka6:w11.cell? ⟨w5.heap.size,6,none⟩=some (va):=cell_of_heap HA11.out
 have kb0:w11.cell? ⟨w7.heap.size,0,none⟩=some (.int .u8 (A.node:Int)):=cell_of_heap HC11.out
 have kb1:w11.cell? ⟨w7.heap.size,1,none⟩=some (.int .u32 (A.mode:Int)):=cell_of_heap HC11.out
 have kb2:w11.cell? ⟨w7.heap.size,2,none⟩=some (.int .u32 (A.uid:Int)):=cell_of_heap HC11.out
 have kb3:w11.cell? ⟨w7.heap.size,3,none⟩=some (.int .u32 (A.gid:Int)):=cell_of_heap HC11.out
 have kb4:w11.cell? ⟨w7.heap.size,4,none⟩=some (.int .i64 A.mtime):=cell_of_heap HC11.out
 have kb5:w11.cell? ⟨w7.heap.size,5,none⟩=some (.string ⟨A.target.toArray⟩):=cell_of_heap HC11.out
 have kb6:w11.cell? ⟨w7.heap.size,6,none⟩=some (vb):=cell_of_heap HC11.out
 go_wp2_with fail
 refine AL.out.mono ?_
 rintro ex w12 ⟨rfl,hb12⟩
 have HK12:=hid hb12
 have HB12:Hid (Below w.heap.size w w12):=hid (HB11.out.trans (hb12.mono HB11.out.size))
 have HA12:=hid ((hb12.block _ (lt_of_heap HA11.out)).trans HA11.out)
 clear ka0 ka1 ka2 ka3 ka4 ka5 ka6 kb0 kb1 kb2 kb3 kb4 kb5 kb6
 clear hb12 AL s0 s1 s2 s3 r0 r1 r2 r3
 obtain⟨aa,ac,rfl⟩:=rowS_slice HO5.out
 obtain⟨n,hn⟩:∃ n,n=A.xs.length:=⟨_,rfl⟩
 have HN:=hid hn
 have HOB:Hid (∀ b∈ob (.slice aa A.xs.length ac),w4.heap.size≤b∧b < w5.heap.size):=hid (fun b hb=>⟨rowS_ge HO5.out b hb,rowS_lt HO5.out b hb⟩)
 have HK512:Hid (Below w5.heap.size w5 w12):=hid ((HK8.out.trans (HK811.out.mono HK8.out.size)).trans (HK12.out.mono (Nat.le_trans HK8.out.size HK811.out.size)))
 have HC1:Hid (n≠0→∃ g cur,aa=some ⟨g,0,none⟩∧w12.heap[g]? =some (.cells cur 123)∧n*2≤cur.size):=hid (fun h0=>by
  rw[hn] at h0
  obtain⟨_,⟨_,h1⟩|⟨g,cap,cur,hv,_,hh,h1,_,h2,_⟩⟩:=HO5.out
  · exact absurd h1 h0
  · injection hv with e1 _ e3
    exact⟨g,cur,e1,(HK512.out.block _ (lt_of_heap hh)).trans hh,by rw[h2,hn];exact Nat.mul_le_mul_right _ h1⟩)
 have KV:Hid (∀ w':World,Turn (ob (.slice aa A.xs.length ac)) w12 w'→w'.cell? ⟨w5.heap.size,6,none⟩=some (.slice aa n ac)):=hid (fun w' ht=>by
  rw[cell_of_heap ((ht.block _ (lt_of_heap HA12.out) (fun hc=>by have:=(HOB.out _ hc).2;omega)).trans HA12.out),HN.out];rfl)
 have hnm:n≤9223372036854775807:=by
  obtain⟨_,_,hv,h1,_⟩:=HX5.out
  rw[hn];exact h1
 clear hn
 go_wp2_with fail
 go_loopw [21] (fun v21 wr=>∃ i:Nat,i≤n∧v21= .int .i64 (i:Int)∧Hid (Turn (ob (.slice aa A.xs.length ac)) w12 wr)∧Hid (n≠0→∃ g cur,aa=some ⟨g,0,none⟩∧wr.heap[g]? =some (.cells cur 123)∧n*2≤cur.size)) (fun v21 _=>n - (RowKit.intOf v21).toNat)
 case atStart=>exact ⟨0,Nat.zero_le _,rfl,hid (Turn.refl _ _),HC1⟩
 case round=>
  obtain⟨i,hi,rfl,HTR,HCR⟩:=hrel
  have c6:=KV.out wr HTR.out
  by_cases hil:(i:Int) < (n:Int)
  · have hi2:i < n:=by omega
    obtain⟨g,cur,rfl,hc1,hc2⟩:=HCR.out (by omega)
    have HCS:Hid (n≠0→∃ g' cur,(some ⟨g,0,none⟩:Option Addr)=some ⟨g',0,none⟩∧(wr.setCells g (i*2) [.string ⟨#[115,112,111,105,108,116]⟩,.string ⟨#[]⟩]).heap[g']? =some (.cells cur 123)∧n*2≤cur.size):=hid (fun _=>⟨g,_,rfl,setCells_heap _ _ _ _ hc1,by rw[putAll_size2];exact hc2⟩)
    have HTS:Hid (Turn (ob (.slice (some ⟨g,0,none⟩) A.xs.length ac)) w12 (wr.setCells g (i*2) [.string ⟨#[115,112,111,105,108,116]⟩,.string ⟨#[]⟩])):=hid (HTR.out.trans (turn_setCells _ _ _ _) (fun y hy=> .inl (by simpa [ob,Value.ownBlock] using hy)))
    have hs1:=setCell_heap wr g (i*2) (.string ⟨#[115,112,111,105,108,116]⟩) _ _ hc1
    obtain⟨z0,a0⟩:∃ z0,wr.cell? ⟨g,i*2,none⟩=some z0:=⟨_,by rw[cell_of_heap hc1,Array.getElem?_eq_getElem (by omega)]⟩
    obtain⟨z1,a1⟩:∃ z1,(wr.setCell ⟨g,i*2,none⟩ (.string ⟨#[115,112,111,105,108,116]⟩)).cell? ⟨g,i*2+1,none⟩=some z1:=⟨_,by rw[cell_of_heap hs1,Array.getElem?_eq_getElem (by rw[Array.size_setIfInBounds];omega)]⟩
    have b0:wr.frozen? ⟨g,i*2,none⟩=false:=frozen_of_heap hc1
    have b1:(wr.setCell ⟨g,i*2,none⟩ (.string ⟨#[115,112,111,105,108,116]⟩)).frozen? ⟨g,i*2+1,none⟩=false:=frozen_of_heap hs1
    clear hs1 hc1 hc2
    go_wp2
    go_roundw
    case rel=>exact ⟨i+1,by omega,by go_num,HTS,HCS⟩
    case measure=>simp [RowKit.intOf];omega
  · obtain rfl:i=n:=by omega
    have HTW:Hid (Turn (ob (.slice aa A.xs.length ac)) w12 wr):=hid HTR.out
    have HLO:Hid (∀ b∈ob (.slice la ns.length lcp),w8.heap.size≤b∧b < w9.heap.size):=hid (fun b hb=>⟨rowS_ge HL9.out b hb,rowS_lt HL9.out b hb⟩)
    have HS:Hid (w5.heap.size≤w8.heap.size∧w9.heap.size≤w10.heap.size∧w10.heap.size≤w11.heap.size∧w11.heap.size≤w12.heap.size):=hid ⟨HK8.out.size,HK10.out.size,HK11.out.size,HK12.out.size⟩
    have HLR:Hid (ns.length≠0→∃ g cur,la=some ⟨g,0,none⟩∧wr.heap[g]? =some (.cells cur 9)∧ns.length≤cur.size∧∀ j,0≤j→j < ns.length→cur[j]? =(ns.map sv)[j]?):=hid (fun h0=>by
     have ho:=HL9.out
     have hbk:∀ b∈ob (.slice la ns.length lcp),wr.heap[b]? =w9.heap[b]? :=fun b hb=>by
      have h1:=HLO.out b hb;have h2:=HS.out
      rw[HTW.out.block b (by omega) (fun hc=>by have:=(HOB.out b hc).2;omega),HK12.out.block b (by omega),HK11.out.block b (by omega),HK10.out.block b (by omega)]
     obtain⟨_,⟨_,h1⟩|⟨g,cap,cur,hv,_,hh,h1,_,h2,h3⟩⟩:=ho
     · exact absurd h1 h0
     · have hg:=hbk g (by rw[hv];simp[ob,Value.ownBlock])
       injection hv with e1 _ e3
       refine⟨g,cur,e1,hg.trans hh,by rw[h2];omega,fun j _ hj=>?_⟩
       rw[←h3,List.getElem?_take_of_lt (by omega),Array.getElem?_toList])
    have HMR:Hid (∀ w':World,Turn (ob (.slice la ns.length lcp)) wr w'→∀ j x,ns[j]? =some x→∃ g,ma=some ⟨g,0,none⟩∧w'.cell? ⟨g,j,none⟩=some (.string ⟨x.toArray⟩)):=hid (fun w' ht j x hx=>by
     have hj:=(List.getElem?_eq_some_iff.1 hx).1
     obtain⟨g,cap,hv,hg,hB,_,hc⟩:=rowS_form HM10.out (by omega)
     injection hv with e1 _ _
     refine⟨g,e1,?_⟩
     have h2:=HS.out
     have hcell:=hc j (sv x) (by rw[List.getElem?_map,hx];rfl)
     rw[World.cell?_of_block (a:=⟨g,j,none⟩) (show w'.heap[g]? =w10.heap[g]? by
      have h3:=HTW.out.size
      rw[ht.block g (by omega) (fun hc=>by have:=(HLO.out g hc).2;omega),HTW.out.block g (by omega) (fun hc=>by have:=(HOB.out g hc).2;have:=HL9.out;have:=HK9.out.size;omega),HK12.out.block g (by omega),HK11.out.block g (by omega)])]
     exact hcell)
    have HNR:Hid (∀ w':World,Turn (ob (.slice la ns.length lcp)) wr w'→∀ j x,ns[j]? =some x→∃ g,ka=some ⟨g,0,none⟩∧w'.cell? ⟨g,j,none⟩=some (.string ⟨x.toArray⟩)):=hid (fun w' ht j x hx=>by
     have hj:=(List.getElem?_eq_some_iff.1 hx).1
     obtain⟨g,cap,hv,hg,hB,_,hc⟩:=rowS_form HN11.out (by omega)
     injection hv with e1 _ _
     refine⟨g,e1,?_⟩
     have h2:=HS.out
     have hcell:=hc j (sv x) (by rw[List.getElem?_map,hx];rfl)
     rw[World.cell?_of_block (a:=⟨g,j,none⟩) (show w'.heap[g]? =w11.heap[g]? by
      have h3:=HTW.out.size
      rw[ht.block g (by omega) (fun hc=>by have:=(HLO.out g hc).2;omega),HTW.out.block g (by omega) (fun hc=>by have:=(HOB.out g hc).2;have:=HK9.out.size;omega),HK12.out.block g (by omega)])]
     exact hcell)
    have HLL:Hid (ns.length≤9223372036854775807):=hid (by
     rcases HL9.out with⟨_,⟨_,h0⟩|⟨g,cap,cur,_,_,_,h1,h2,_⟩⟩
     · rw[h0];omega
     · unfold maxLen at h2;omega)
    have hll:=HLL.out
    go_wp2_with fail
    clear hi c6 hil
    go_loopw [22] (fun v22 wq=>∃ i:Nat,i≤ns.length∧v22= .int .i64 (i:Int)∧Hid (Turn (ob (.slice la ns.length lcp)) wr wq)∧Hid (ns.length≠0→∃ g cur,la=some ⟨g,0,none⟩∧wq.heap[g]? =some (.cells cur 9)∧ns.length≤cur.size∧∀ j,i≤j→j < ns.length→cur[j]? =(ns.map sv)[j]?)) (fun v22 _=>ns.length - (RowKit.intOf v22).toNat)
    case atStart=>exact ⟨0,Nat.zero_le _,rfl,hid (Turn.refl _ _),HLR⟩
    case round=>
     obtain⟨i,hi,rfl,HTQ,HLQ⟩:=hrel
     by_cases hil:(i:Int) < (ns.length:Int)
     · have hi2:i < ns.length:=by omega
       obtain⟨x,hx⟩:∃ x,ns[i]? =some x:=⟨_,List.getElem?_eq_getElem hi2⟩
       obtain⟨gm,hma,m1⟩:=HMR.out _ HTQ.out i x hx
       obtain⟨gk,hka,k1⟩:=HNR.out _ HTQ.out i x hx
       obtain⟨g,cur,hla,hc1,hc2,hc3⟩:=HLQ.out (by omega)
       subst hma hka hla
       have hgl:=HLO.out g (by simp[ob,Value.ownBlock])
       have hgm:=rowS_ge HM10.out gm (by simp[ob,Value.ownBlock])
       have hgk:=rowS_ge HN11.out gk (by simp[ob,Value.ownBlock])
       have hss:=HS.out
       have n1:gm≠g:=by omega
       have n2:gk≠g:=by omega
       have n3:g≠gm:=by omega
       have n4:g≠gk:=by omega
       have c1:=(cell_of_heap (j:=i) hc1).trans ((hc3 i (Nat.le_refl _) hi2).trans (by rw[List.getElem?_map,hx];rfl:(ns.map sv)[i]? =some (.string ⟨x.toArray⟩)))
       have f1:=frozen_of_heap (j:=i) hc1
       have HH:=hid hc1;have HH2:=hid hc2;have HH3:=hid hc3
       clear hc1 hc2 hc3 hgl hgm hgk hss hx
       go_wp2_with fail
       go_quiet (fail)
       go_wp2_with fail
       go_quiet (fail)
       go_wp2
       go_roundw
       case rel=>
        have t1:=HTQ.out.setCell (p:=⟨g,i,none⟩) (.inl (by simp[ob,Value.ownBlock])) (.string ⟨#[115,112,111,105,108,116]⟩)
        have h1:=setCell_heap _ g i (.string ⟨#[115,112,111,105,108,116]⟩) _ _ HH.out
        exact⟨i+1,by omega,by go_num,hid ⟨t1.os,t1.tape,t1.output,t1.size,t1.block⟩,hid (fun _=>⟨g,_,rfl,h1,by rw[Array.size_setIfInBounds];exact HH2.out,fun j h2 h3=>by rw[Array.getElem?_setIfInBounds_ne (by omega)];exact HH3.out j (by omega) h3⟩)⟩
       case measure=>simp [RowKit.intOf];omega
     · obtain rfl:i=ns.length:=by omega
       go_wp2
       go_ret
       refine⟨rfl,?_⟩
       have hz:=HS.out
       exact(HB12.out.trans (HTW.out.below (fun b hb=>by have:=(HOB.out b hb).1;have:=HB4.out.size;omega) HB12.out.size)).trans (HTQ.out.below (fun b hb=>by have:=(HLO.out b hb).1;have:=HB8.out.size;omega) (Nat.le_trans HB12.out.size HTW.out.size))
end Go.Proofs.YtnmejonfdfdegaaGreatDoor.Sr
namespace Go.Proofs.YtnmejonfdfdegaaGreatDoor.Nm
open Go.RowKit
open Lib (hid)
def StrsAt (w:World) (v:Value) (ns:List (List UInt8)):Prop:=
 ∃ a cap,v= .slice a ns.length cap∧ns.length≤maxLen∧(ns≠[]→∃ b o,a=some ⟨b,o,none⟩∧b < w.heap.size∧∀ (j:Nat) x,ns[j]? =some x→w.cell? ⟨b,o+j,none⟩=some (sv x))
theorem StrsAt.below {w w':World} {v:Value} {ns:List (List UInt8)} (h:StrsAt w v ns) (hb:Below w.heap.size w w'):StrsAt w' v ns:=by
 obtain⟨a,cap,rfl,hm,h⟩:=h
 refine⟨a,cap,rfl,hm,fun hne=>?_⟩
 obtain⟨b,o,rfl,hlt,hc⟩:=h hne
 exact⟨b,o,rfl,Nat.lt_of_lt_of_le hlt hb.size,fun j x hj=>by rw[hb.cell (p:=⟨b,o+j,none⟩) hlt];exact hc j x hj⟩
theorem StrsAt.of_owns {w:World} {base:Nat} {v:Value} {ns:List (List UInt8)} (h:w.ownsRow base 9 1 v ns.length (ns.map sv)):StrsAt w v ns:=by
 obtain⟨hl,h⟩:=h
 rcases h with⟨rfl,h0⟩|⟨g,cap,cur,rfl,hg,hh,hn,hcap,hsz,ht⟩
 · have:ns=[]:=by cases ns with|nil=>rfl|cons a t=>simp at h0
   subst this;exact⟨none,0,rfl,by simp,fun h=>absurd rfl h⟩
 · refine⟨_,_,rfl,Nat.le_trans hn hcap,fun _=>⟨g,0,rfl,?_,?_⟩⟩
   · by_cases h:g < w.heap.size
     · exact h
     · rw[Array.getElem?_eq_none (by omega)] at hh;cases hh
   · intro j x hj
     have hj':j < ns.length:=(List.getElem?_eq_some_iff.1 hj).1
     have e:cur[j]? =some (sv x):=by
      have:=congrArg (fun l=>l[j]?) ht
      simp only[List.getElem?_map,hj,Option.map_some] at this
      rw[List.getElem?_take_of_lt (by omega),Array.getElem?_toList] at this
      exact this
     simp only[World.cell?,hh,Nat.zero_add]
     simpa using e
theorem StrsAt.nil (w:World):StrsAt w (.slice none 0 0) []:=⟨none,0,rfl,by simp,fun h=>absurd rfl h⟩
theorem chk_len {l:List UInt8} (h:chk l=true):l.length≤255:=by
 simp only[chk,lenFine,Bool.and_eq_true,decide_eq_true_eq] at h;omega
theorem ba_data (x:List UInt8):(⟨x.toArray⟩:ByteArray).data.toList=x:=by simp
theorem pathOf_snoc (ns:List (List UInt8)) (x:List UInt8):pathOf (ns++[x])=pathOf ns++(47::x):=by simp[pathOf]
def joinE (ns:List (List UInt8)):Int:=if (joinP ns).isSome then 0 else 10
def joinT (ns:List (List UInt8)):List UInt8:=(joinP ns).getD []
theorem joinP_no1 {ns:List (List UInt8)} (h:16 < ns.length):joinP ns=none:=by
 rw[joinP,if_neg];simp;omega
theorem joinP_no2 {ns:List (List UInt8)} {x:List UInt8} (h:x∈ns) (hc:chk x=false):joinP ns=none:=by
 rw[joinP,if_neg]
 intro hh
 simp only[Bool.and_eq_true,List.all_eq_true] at hh
 have:=hh.2 x h
 rw[hc] at this;cases this
theorem joinP_yes {ns:List (List UInt8)} (h1:ns.length≤16) (h2:ns.all chk=true):joinP ns=some (if pathOf ns=[] then [47] else pathOf ns):=by
 rw[joinP,if_pos];simp only[h2,Bool.and_true];simpa using h1
def JoinPost (ns:List (List UInt8)) (w:World) (e:Ending) (w':World):Prop:=
 e= .returned (.tuple #[sv (joinT ns),.int .i64 (joinE ns)])∧Below w.heap.size w w'
theorem joinPost_no {ns:List (List UInt8)} {w w':World} {e:Ending} (h:joinP ns=none) (he:e= .returned (.tuple #[.string ⟨#[]⟩,.int .i64 10])) (hb:Below w.heap.size w w'):JoinPost ns w e w':=
 ⟨by rw[he,joinE,joinT,h];rfl,hb⟩
theorem ref_join (v:Value) (ns:List (List UInt8)) (w:World) (hT:Tabs w) (hv:StrsAt w v ns):
 Calls Tryz.prog 78 #[v] w (JoinPost ns w):=by
 obtain⟨a,cap,rfl,hm,hc⟩:=hv
 by_cases h16:16 < ns.length
 · have HN:=hid (joinP_no1 h16)
   clear hc
   unfold maxLen at hm
   generalize hn:ns.length=n at*
   clear hn
   go_enter Tryz.func78,Tryz.ntmps78
   go_wp2
   go_ret2
   exact joinPost_no HN.out rfl (Below.refl _ _)
 · have HC:=hid hc
   have h16':ns.length≤16:=by omega
   clear hc h16 hm
   go_enter Tryz.func78,Tryz.ntmps78
   go_wp2
   go_loopw [4,5] (fun s4 s5 wr=>∃ (k:Nat) (P:ByteArray),k≤ns.length∧s5= .int .i64 k∧s4= .string P∧P.data.toList=pathOf (ns.take k)∧P.size≤256*k∧(∀ j x,j < k→ns[j]? =some x→chk x=true)∧Below w.heap.size w wr) (fun _ s5 _=>ns.length - (intOf s5).toNat)
   case atStart=>exact ⟨0,⟨#[]⟩,by omega,rfl,rfl,rfl,by simp[ByteArray.size],fun j x h=>by omega,Below.refl _ _⟩
   case round=>
    obtain⟨k,P,hk,rfl,rfl,hP,hPs,hall,hbw⟩:=hrel
    have HP:=hid hP
    have HA:=hid hall
    clear hP hall
    by_cases hlt:k < ns.length
    · obtain⟨x,hkx⟩:∃ x,ns[k]? =some x:=⟨ns[k],List.getElem?_eq_getElem hlt⟩
      have hmem:=List.mem_of_getElem? hkx
      obtain⟨b,o,rfl,hb0,hcl⟩:=HC.out (List.ne_nil_of_mem hmem)
      have hc1:wr.cell? ⟨b,o+k,none⟩=some (sv x):=by rw[hbw.cell (p:=⟨b,o+k,none⟩) hb0];exact hcl k x hkx
      have hb1:b < wr.heap.size:=Nat.lt_of_lt_of_le hb0 hbw.size
      unfold sv at hc1
      have hch:=ref_check ⟨x.toArray⟩ wr (hT.below hbw)
      rw[ba_data] at hch
      have HKX:=hid hkx
      clear hcl hkx
      cases hcb:chk x with
      |false=>
       have e1:chkN x=10:=by rw[chkN,hcb];rfl
       rw[e1] at hch
       have HN:=hid (joinP_no2 hmem hcb)
       have HCH:=hid hch
       clear e1 hcb hch hmem
       go_wp2_with fail
       refine HCH.out.mono ?_
       rintro e w3 ⟨rfl,hb3⟩
       go_wp2
       go_ret2
       exact joinPost_no HN.out rfl (hbw.trans (hb3.mono hbw.size))
      |true=>
       have e1:chkN x=0:=by rw[chkN,hcb];rfl
       rw[e1] at hch
       have HCB:=hid hcb
       have HCH:=hid hch
       have hx255:=chk_len hcb
       clear e1 hcb hch hmem
       go_wp2_with fail
       refine HCH.out.mono ?_
       rintro e w3 ⟨rfl,hb3⟩
       have hc3:w3.cell? ⟨b,o+k,none⟩=some (.string ⟨x.toArray⟩):=by rw[hb3.cell (p:=⟨b,o+k,none⟩) hb1];exact hc1
       go_wp2
       go_roundw
       case rel=>
        refine⟨k+1,_,by omega,by go_num,rfl,?_,?_,?_,hbw.trans (hb3.mono hbw.size)⟩
        · have ht:ns.take (k+1)=ns.take k++[x]:=by
           rw[List.take_add_one,HKX.out];rfl
          rw[ht,pathOf_snoc,←HP.out]
          simp[ByteArray.data_append]
        · rw[ByteArray.size_append,ByteArray.size_append,Lib.size_eq ⟨x.toArray⟩,ba_data]
          show _+1+_≤_
          omega
        · intro j y hj hjy
          by_cases e:j=k
          · subst e;rw[HKX.out] at hjy;cases hjy;exact HCB.out
          · exact HA.out j y (by omega) hjy
       case measure=>simp [intOf];omega
    · have hkn:k=ns.length:=by omega
      have hP:=HP.out
      rw[hkn,List.take_length] at hP
      have hfin:joinP ns=some (if pathOf ns=[] then [47] else pathOf ns):=joinP_yes h16' (by
       rw[List.all_eq_true]
       intro x hx
       obtain⟨j,hj,e⟩:=List.getElem_of_mem hx
       exact HA.out j x (by omega) (by rw[List.getElem?_eq_getElem hj,e]))
      by_cases he:pathOf ns=[]
      · have hpe:P.toList.isEmpty=true:=by rw[Lib.toList_data,hP,he];rfl
        rw[if_pos he] at hfin
        have HF:=hid hfin
        clear hfin he hP
        go_wp2
        go_ret2
        exact⟨by rw[joinE,joinT,HF.out];rfl,hbw⟩
      · have hpe:P.toList.isEmpty=false:=by
         rw[Lib.toList_data,hP]
         cases h:pathOf ns with
         |nil=>exact absurd h he
         |cons _ _=>rfl
        rw[if_neg he,←hP] at hfin
        have HF:=hid hfin
        clear hfin he hP
        go_wp2
        go_ret2
        exact⟨by rw[joinE,joinT,HF.out,Option.getD_some,sv_data];rfl,hbw⟩
end Go.Proofs.YtnmejonfdfdegaaGreatDoor.Nm
namespace Go.Proofs.YtnmejonfdfdegaaGreatDoor.Sr
open Go.RowKit Go.Maps Go.WideMaps Rf Go.Proofs.YtnmejonfdfdegaaGreatDoor.Nm St
def root0:RN:=⟨[],1,0,⟨2,493,0,0,0,[],[]⟩,[],.slice none 0 0,.slice none 0 0⟩
def newF:Tr:=⟨[root0.te],0,1,0⟩
theorem rnew_any (w:World):
 Calls Tryz.prog 6 #[] w fun e w'=>∃ r v R,e= .returned (ptr r)∧RTree w.heap.size w' r v R newF∧Below w.heap.size w w'∧∀ b∈rblk r v R,w.heap.size≤b:=by
 go_enter Tryz.func6,Tryz.ntmps6
 go_wp2
 go_ret
 obtain⟨W1,hW1⟩:∃ W1,W1=w.alloc (.cells root0.cells.toArray RnT):=⟨_,rfl⟩
 have hs1:W1.heap.size=w.heap.size+1:=by rw[hW1,one_size]
 have hq1:W1.heap[w.heap.size]? =some (.cells root0.cells.toArray RnT):=by rw[hW1];exact(MapKept.heap_alloc w _).1
 have hb1:Below w.heap.size w W1:=by rw[hW1];exact(Below.refl _ _).alloc (Nat.le_refl _) _
 obtain⟨W2,hW2⟩:∃ W2,W2=W1.alloc (.cells #[.slice (some ⟨w.heap.size,0,none⟩) 1 1,.int .i64 0,.int .u64 1,.int .i64 0] RtT):=⟨_,rfl⟩
 have hq2:W2.heap[w.heap.size+1]? =some (.cells #[.slice (some ⟨w.heap.size,0,none⟩) 1 1,.int .i64 0,.int .u64 1,.int .i64 0] RtT):=by rw[hW2,←hs1];exact(MapKept.heap_alloc W1 _).1
 have hq12:W2.heap[w.heap.size]? =some (.cells root0.cells.toArray RnT):=by rw[hW2];exact at_alloc hq1 _
 have hb2:Below w.heap.size w W2:=by rw[hW2];exact hb1.alloc (by rw[hs1];omega) _
 have key:∃ r v R,Ending.returned (.pointer (some ⟨w.heap.size+1,0,none⟩))= .returned (ptr r)∧RTree w.heap.size W2 r v R newF∧Below w.heap.size w W2∧∀ b∈rblk r v R,w.heap.size≤b:=by
  refine⟨w.heap.size+1,.slice (some ⟨w.heap.size,0,none⟩) 1 1,[root0],rfl,⟨hq2,?_,?_,by omega,?_,?_,rfl⟩,hb2,?_⟩
  · exact⟨rfl,.inr ⟨w.heap.size,1,root0.cells.toArray,rfl,Nat.le_refl _,hq12,Nat.le_refl _,by decide,rfl,rfl⟩⟩
  · intro x hx;simp[ob,Value.ownBlock] at hx;omega
  · intro n hn
    obtain rfl:=List.mem_singleton.1 hn
    exact⟨⟨rowS_nil _ _ _ _,by intro x hx;cases hx⟩,⟨none,0,rfl,Nat.zero_le _,(by intro x hx;cases hx),fun h=>absurd rfl h⟩⟩
  · intro b hb;simp[robL,robN,root0,ob,Value.ownBlock,xob] at hb
  · intro b hb
    rw[rblk,List.mem_cons,List.mem_append] at hb
    rcases hb with rfl|hb|hb
    · omega
    · simp[ob,Value.ownBlock] at hb;omega
    · simp[robL,robN,root0,ob,Value.ownBlock,xob] at hb
 rw[hW2,hW1] at key
 exact key
theorem rpath_any (B:Nat) (w:World) (n:RN) (hT:Tabs w) (hP:PathAt B w n.nv n.nm) (h16:n.nm.length≤16) (hc:∀ s∈n.nm,chk s=true):
 Calls Tryz.prog 42 #[rnV n] w fun e w'=>e= .returned (.string ⟨(pathN n.nm).toArray⟩)∧Below w.heap.size w w':=by
 obtain⟨W,hW⟩:∃ W,W=w.alloc (.cells n.cells.toArray RnT):=⟨_,rfl⟩
 have hb0:Below w.heap.size w W:=by rw[hW];exact(Below.refl _ _).alloc (Nat.le_refl _) _
 have hq0:W.heap[w.heap.size]? =some (.cells n.cells.toArray RnT):=by rw[hW];exact(MapKept.heap_alloc w _).1
 obtain⟨na,nc,hnv⟩:=rowS_slice hP.row
 have c0:(w.alloc (.cells n.cells.toArray RnT)).cell? ⟨w.heap.size,0,none⟩=some (.slice na n.nm.length nc):=by rw[←hW,←hnv];exact cell_of_heap hq0
 have JO:=ref_join n.nv n.nm W (hT.below hb0) (Nm.StrsAt.of_owns (hP.below hb0).row)
 have HJ:=joinP_yes h16 (List.all_eq_true.2 hc)
 have JO:Calls Tryz.prog 78 #[.slice na n.nm.length nc] W fun e w'=>e= .returned (.tuple #[sv (pathN n.nm),.int .i64 0])∧Below W.heap.size W w':=by
  have h:=JO
  rw[hnv] at h
  refine h.mono ?_
  rintro e w' ⟨h1,h2⟩
  refine⟨?_,h2⟩
  rw[h1,joinT,joinE,HJ];rfl
 have JO:=Lib.hid JO
 have HB0:=Lib.hid hb0;have HW:=Lib.hid hW
 have HPN:Hid ((some (if pathOf n.nm=[] then [47] else pathOf n.nm)).getD []=pathN n.nm):=Lib.hid rfl
 clear hb0 hq0 hW hT hP hnv
 unfold rnV
 go_enter Tryz.func42,Tryz.ntmps42
 go_wp2_with fail
 rw[←HW.out]
 refine JO.out.mono ?_
 rintro ex w1 ⟨rfl,hb1⟩
 have HB1:=Lib.hid (HB0.out.trans (hb1.mono HB0.out.size))
 clear hb1 JO
 go_wp2
 go_ret
 exact⟨rfl,HB1.out⟩
noncomputable def vaR (n:Nat):Code:=(Tryz.f22.body.bind (findR n)).getD .skip
noncomputable def vaB (n:Nat):Code:=(Tryz.f22.body.bind (findB n)).getD .skip
theorem infoRnS (x:RN):(Tryz.prog.info? RnT).map (·.size)=some x.cells.toArray.size:=by show _=some 11;kernel_rfl
structure VaS (w:World) (g i wa:Nat) (x:RN) (xv:Value):Prop where
 row:w.rangeAt g (i*11) (vcells x.te xv)
 var:w.heap[wa]? =some (.cells x.cells.toArray RnT)
 xs:XsAt w xv x.at_.xs
 ys:XsAt w x.xv x.at_.xs
 lt:g < w.heap.size
section
variable {w w':World} {g i wa:Nat} {x:RN} {xv:Value}
theorem VaS.below (h:VaS w g i wa x xv) (hb:Below w.heap.size w w'):VaS w' g i wa x xv:=
 ⟨fun j u hu=>(hb.cell (p:=⟨g,i*11+j,none⟩) h.lt).trans (h.row j u hu),(hb.block _ (lt_of_heap h.var)).trans h.var,h.xs.kept hb.size (fun b hx=>hb.block b (h.xs.lt b hx)),h.ys.kept hb.size (fun b hx=>hb.block b (h.ys.lt b hx)),Nat.lt_of_lt_of_le h.lt hb.size⟩
theorem VaS.cells (h:VaS w g i wa x xv):
 w.cell? ⟨g,i*11,none⟩=some (.string ⟨(pathN x.nm).toArray⟩)∧w.cell? ⟨g,i*11+8,none⟩=some (.string ⟨x.data.toArray⟩)∧w.cell? ⟨g,i*11+9,none⟩=some (.int .u64 (x.ino:Int))∧w.cell? ⟨g,i*11+10,none⟩=some (.int .i64 x.tick)∧
 w.cell? ⟨wa,8,none⟩=some (.string ⟨x.data.toArray⟩)∧w.cell? ⟨wa,9,none⟩=some (.int .u64 (x.ino:Int))∧w.cell? ⟨wa,10,none⟩=some (.int .i64 x.tick):=
 ⟨h.row 0 _ rfl,h.row 8 _ rfl,h.row 9 _ rfl,h.row 10 _ rfl,cell_of_heap h.var,cell_of_heap h.var,cell_of_heap h.var⟩
theorem VaS.atR (h:VaS w g i wa x xv):w.rangeAt g (i*11+1) (x.at_.cells xv):=fun j u hu=>by
 have:=h.row (j+1) u (by
  show(x.at_.cells xv++_)[j]? =_
  rw[List.getElem?_append_left (List.getElem?_eq_some_iff.1 hu).1];exact hu)
 rw[show i*11+1+j=i*11+(j+1) by omega];exact this
theorem VaS.varR (h:VaS w g i wa x xv):w.rangeAt wa 0 x.cells:=fun j u hu=>by
 rw[cell_of_heap h.var,List.getElem?_toArray,Nat.zero_add];exact hu
theorem VaS.varA (h:VaS w g i wa x xv):w.rangeAt wa 1 (x.at_.cells x.xv):=fun j u hu=>by
 rw[cell_of_heap h.var,List.getElem?_toArray,Nat.add_comm 1 j]
 show(x.at_.cells x.xv++_)[j]? =_
 rw[List.getElem?_append_left (List.getElem?_eq_some_iff.1 hu).1];exact hu
theorem owns_open {C m xc:Nat} {e:TypeId} {xa:Option Addr} {ys:List Value} (h:w.ownsRow C e 2 (.slice xa m xc) m ys) (hm:m≠0):
 ∃ g cur,xa=some ⟨g,0,none⟩∧w.heap[g]? =some (.cells cur e)∧m*2≤cur.size∧∀ (w':World) cur',w'.heap[g]? =some (.cells cur' e)→cur'.size=cur.size→∃ ys',w'.ownsRow C e 2 (.slice xa m xc) m ys':=by
 obtain⟨h0,⟨_,h1⟩|⟨g,cap,cur,hv,a1,a2,a3,a4,a5,a6⟩⟩:=h
 · first|exact absurd h1 hm|exact absurd h1.1 hm
 · have hv2:=hv
   injection hv2 with e1 _ e3
   refine⟨g,cur,e1,a2,by rw[a5];exact Nat.mul_le_mul_right _ a3,fun w' cur' hh hs=>⟨cur'.toList.take (m*2),?_,.inr ⟨g,cap,cur',hv,a1,hh,a3,a4,by rw[hs];exact a5,rfl⟩⟩⟩
   rw[List.length_take,Array.length_toList,hs,a5]
   have:=Nat.mul_le_mul_right 2 a3
   omega
end
def VaI (C:Nat) (w:World) (g:Nat) (Z:List (TE×Value)) (i:Nat):Prop:=
 ∃ cur,w.heap[g]? =some (.cells cur VnT)∧∀ (j:Nat) p,i≤j→Z[j]? =some p→w.rangeAt g (j*11) (vcells p.1 p.2)∧w.ownsRow C XaT 2 p.2 p.1.at_.xs.length (xcells p.1.at_.xs)
section
variable {C:Nat} {w w':World} {g i n c:Nat} {Z:List (TE×Value)} {p:TE×Value} {x:RN} {u:Value}
theorem VaI.of (h:OutAt C w (.slice (some ⟨g,0,none⟩) n c) Z):VaI C w g Z 0:=by
 have hx:=h.xrow
 obtain⟨h1,⟨hc,_⟩|⟨g',cap',cur,hv,a1,a2,a3,a4,a5,a6⟩⟩:=h.row
 · cases hc
 · injection hv with e1 e2 e3
   injection e1 with e1
   injection e1 with e1
   subst e1
   refine⟨cur,a2,fun j p _ hp=>⟨fun t u hu=>?_,hx p (List.mem_of_getElem? hp)⟩⟩
   rw[cell_of_heap a2]
   have hk:=vrows_at hp hu
   rw[←a6] at hk
   have hlt:=(List.getElem?_eq_some_iff.1 hk).1
   rw[List.length_take] at hlt
   rw[List.getElem?_take_of_lt (by omega),Array.getElem?_toList] at hk
   exact hk
theorem VaI.below (h:VaI C w g Z i) (hb:Below w.heap.size w w'):VaI C w' g Z i:=by
 obtain⟨cur,hq,hc⟩:=h
 refine⟨cur,(hb.block _ (lt_of_heap hq)).trans hq,fun j p hj hp=>⟨fun t u hu=>(hb.cell (p:=⟨g,j*11+t,none⟩) (lt_of_heap hq)).trans ((hc j p hj hp).1 t u hu),rowS_kept (hc j p hj hp).2 (fun b _ hl=>hb.block b hl)⟩⟩
theorem VaI.get (h:VaI C w g Z i) (hp:Z[i]? =some p) (hb:bare p.1=x.te) (hl:∀ z∈x.at_.xs,z.1.length≤maxLen∧z.2.length≤maxLen):w.rangeAt g (i*11) (vcells x.te p.2)∧XsAt w p.2 x.at_.xs∧w.ownsRow C XaT 2 p.2 x.at_.xs.length (xcells x.at_.xs)∧g < w.heap.size:=by
 obtain⟨cur,hq,hc⟩:=h
 obtain⟨h1,h2⟩:=hc i p (Nat.le_refl _) hp
 have ha:p.1.at_=x.at_:=show (bare p.1).at_=x.te.at_ by rw[hb]
 rw[ha] at h2
 refine⟨?_,(xs_of_ownE h2 hl).1,h2,lt_of_heap hq⟩
 rw[←hb];exact h1
theorem VaI.from (h:VaI C w g Z 0) (i:Nat):VaI C w g Z i:=by
 obtain⟨cur,hq,hc⟩:=h
 exact⟨cur,hq,fun j p _ hp=>hc j p (Nat.zero_le _) hp⟩
theorem VaI.step (h:VaI C w g Z i) (hp:Z[i]? =some p) (hn:(g::Z.flatMap fun p=>ob p.2).Nodup) (ht:Turn (ob p.2) w w'):VaI C (w'.setCell ⟨g,i*11,none⟩ u) g Z (i+1):=by
 obtain⟨cur,hq,hc⟩:=h
 obtain⟨hi,hpi⟩:=List.getElem?_eq_some_iff.1 hp
 have hn2:=List.nodup_cons.1 hn
 have hg:∀ {j:Nat} {p'},Z[j]? =some p'→∀ b∈ob p'.2,b≠g:=fun hj b hb hbg=>hn2.1 (hbg ▸ List.mem_flatMap.2 ⟨_,List.mem_of_getElem? hj,hb⟩)
 have hq1:w'.heap[g]? =some (.cells cur VnT):=(ht.block _ (lt_of_heap hq) (fun hb=>hg hp _ hb rfl)).trans hq
 refine⟨_,setCell_heap _ _ _ _ _ _ hq1,fun j p' hj hp'=>?_⟩
 obtain⟨h1,h2⟩:=hc j p' (by omega) hp'
 refine⟨fun t v hv=>?_,rowS_kept h2 (fun b hb hl=>?_)⟩
 · have h3:=h1 t v hv
   rw[cell_of_heap hq] at h3
   rw[cell_of_heap (setCell_heap _ _ _ _ _ _ hq1),Array.getElem?_setIfInBounds_ne (by omega)]
   exact h3
 · rw[Below.heap_setCell _ _ _ _ (hg hp' b hb)]
   refine ht.block b hl (fun hb2=>?_)
   obtain⟨hj',hpj⟩:=List.getElem?_eq_some_iff.1 hp'
   have hpw:=(List.pairwise_flatMap.1 hn2.2).2
   have:=List.pairwise_iff_getElem.1 hpw i j hi hj' (by omega) b (by rw[hpi];exact hb2) b (by rw[hpj];exact hb)
   exact this rfl
end
structure VaC (w:World) (q gR vc n:Nat) (R:List RN):Prop where
 book:∀ w',Below w.heap.size w w'→w'.cell? ⟨q,0,none⟩=some (.slice (some ⟨gR,0,none⟩) n vc)
 node:∀ w',Below w.heap.size w w'→∀ (i:Nat) x,R[i]? =some x→w'.rangeAt gR (i*11) x.cells∧XsAt w' x.xv x.at_.xs
 path:∀ w',Below w.heap.size w w'→∀ x∈R,Calls Tryz.prog 42 #[rnV x] w' fun e w2=>e= .returned (.string ⟨(pathN x.nm).toArray⟩)∧Below w'.heap.size w' w2
 one:∀ x∈R,x.cells.toArray.all (·.oneCell')=true
 len:R.length=n
 small:∀ x∈R,x.at_.xs.length≤16
end Go.Proofs.YtnmejonfdfdegaaGreatDoor.Sr
