import Derived.Test.YtnmejonfdfdegaaGreatDoorZPZz
import Derived.Test.YtnmejonfdfdegaaGreatDoorZPSrXattr
import Derived.Test.YtnmejonfdfdegaaGreatDoorZPSrOwn
import Derived.Test.YtnmejonfdfdegaaGreatDoorZPSrSort
import Derived.Test.YtnmejonfdfdegaaGreatDoorZPSrLook
set_option linter.unusedSimpArgs false
set_option linter.unusedVariables false
set_option maxHeartbeats 8000000
set_option maxRecDepth 100000
namespace Go.Proofs.YtnmejonfdfdegaaGreatDoor.Sr
open Go.RowKit Go.Maps Go.WideMaps Rf Go.Proofs.YtnmejonfdfdegaaGreatDoor.Nm St
open Lib (hid)
theorem xs_front {w:World} {a:Option Addr} {m c:Nat} {xs:Xs} {z:List UInt8×List UInt8} (h:XsAt w (.slice a m c) (xs++[z])):XsAt w (.slice a xs.length c) xs∧∀ b∈xob xs (.slice a xs.length c),b∈xob (xs++[z]) (.slice a m c):=by
 obtain⟨a',c',hv,h1,h2,h3⟩:=h
 injection hv with e1 _ e3
 subst e1 e3
 refine⟨⟨a,c,rfl,by rw[List.length_append] at h1;exact Nat.le_trans (Nat.le_add_right _ _) h1,fun x hx=>h2 x (List.mem_append_left _ hx),fun _=>?_⟩,fun b hb=>?_⟩
 · obtain⟨b,o,rfl,hb,hc⟩:=h3 (by simp)
   exact⟨b,o,rfl,hb,fun i x hx=>hc i x (by rw[List.getElem?_append_left (List.getElem?_eq_some_iff.1 hx).1];exact hx)⟩
 · cases xs with
   |nil=>simp [xob] at hb
   |cons y r=>
    obtain⟨b',o,rfl,_,_⟩:=h3 (by simp)
    simpa [xob] using hb
def mrk:List UInt8×List UInt8:=([109,97,114,107],[])
def InMark (w:World) (A:XA) (e:Ending) (w':World):Prop:=∃ g c,e= .returned (.agg (A.cells (.slice (some ⟨g,0,none⟩) A.xs.length c)).toArray)∧w'.ownsRow w.heap.size 123 2 (.slice (some ⟨g,0,none⟩) (A.xs.length+1) c) (A.xs.length+1) (xcells (A.xs++[mrk]))∧(∀ x∈A.xs,x.1.length≤maxLen∧x.2.length≤maxLen)∧Below w.heap.size w w'
theorem mark_xs {w:World} {B g c:Nat} {xs:Xs} (h:w.ownsRow B 123 2 (.slice (some ⟨g,0,none⟩) (xs.length+1) c) (xs.length+1) (xcells (xs++[mrk]))) (hl:∀ x∈xs,x.1.length≤maxLen∧x.2.length≤maxLen):
 XsAt w (.slice (some ⟨g,0,none⟩) xs.length c) xs∧∀ b∈xob xs (.slice (some ⟨g,0,none⟩) xs.length c),B≤b:=by
 have h2:w.ownsRow B 123 2 (.slice (some ⟨g,0,none⟩) (xs++[mrk]).length c) (xs++[mrk]).length (xcells (xs++[mrk])):=by rw[List.length_append];exact h
 obtain⟨h3,h4⟩:=xs_of_own h2 (fun y hy=>by
  rcases List.mem_append.1 hy with h1|h1
  · exact hl y h1
  · obtain rfl:=List.mem_singleton.1 h1;exact⟨by decide,by decide⟩)
 obtain⟨h5,h6⟩:=xs_front h3
 exact⟨h5,fun b hb=>h4 b (h6 b hb)⟩
theorem in18m_any (w:World) (A:XA) (v:Value) (hv:XsAt w v A.xs) (hz:A.xs.length*32≤140737488351232):
 Calls Tryz.prog 46 #[.agg (A.cells v).toArray] w (InMark w A):=by
 obtain⟨i0,hi0,hz0,hz1,hz2⟩:=info_parts infoXa
 have hz3:(Value.agg #[.string ⟨#[]⟩,.string ⟨#[]⟩]).cells.size=2:=by kernel_rfl
 obtain⟨W,hW⟩:∃ W,W=(w.alloc (.cells (A.cells v).toArray 67)).alloc (.cells (zeroA.cells (.slice none 0 0)).toArray AtT):=⟨_,rfl⟩
 have hb0:Below w.heap.size w W:=by rw[hW];exact((Below.refl _ _).alloc (Nat.le_refl _) _).alloc (by rw[one_size];omega) _
 have hq0:W.heap[w.heap.size]? =some (.cells (A.cells v).toArray 67):=by rw[hW];exact at_alloc (MapKept.heap_alloc w _).1 _
 have hr0:W.heap[w.heap.size+1]? =some (.cells (zeroA.cells (.slice none 0 0)).toArray AtT):=by
  have:=(MapKept.heap_alloc (w.alloc (.cells (A.cells v).toArray 67)) (.cells (zeroA.cells (.slice none 0 0)).toArray AtT)).1
  rw[one_size] at this
  rw[hW];exact this
 obtain⟨xs,hxs⟩:∃ xs,xs=A.xs:=⟨_,rfl⟩
 have HXE:=hid hxs
 obtain⟨xa,xc,rfl,hxm,hxl,hxc⟩:=hv
 rw[←hxs] at hxm hxl hxc hz hq0 hW
 have KZ:Hid (∀ w',Below W.heap.size W w'→w'.heap[w.heap.size+1]? =some (.cells (zeroA.cells (.slice none 0 0)).toArray AtT)):=hid (fun w' hb=>(hb.block _ (lt_of_heap hr0)).trans hr0)
 have K6:Hid (∀ w',Below W.heap.size W w'→w'.cell? ⟨w.heap.size,6,none⟩=some (.slice xa xs.length xc)):=hid (fun w' hb=>cell_of_heap ((hb.block _ (lt_of_heap hq0)).trans hq0))
 have KA:Hid (∀ w',Below W.heap.size W w'→w'.cell? ⟨w.heap.size,0,none⟩=some (.int .u8 (A.node:Int))∧w'.cell? ⟨w.heap.size,1,none⟩=some (.int .u32 (A.mode:Int))∧w'.cell? ⟨w.heap.size,2,none⟩=some (.int .u32 (A.uid:Int))∧w'.cell? ⟨w.heap.size,3,none⟩=some (.int .u32 (A.gid:Int))∧w'.cell? ⟨w.heap.size,4,none⟩=some (.int .i64 A.mtime)∧w'.cell? ⟨w.heap.size,5,none⟩=some (.string ⟨A.target.toArray⟩)):=hid (fun w' hb=>by
  have h0:=(hb.block _ (lt_of_heap hq0)).trans hq0
  exact⟨cell_of_heap h0,cell_of_heap h0,cell_of_heap h0,cell_of_heap h0,cell_of_heap h0,cell_of_heap h0⟩)
 have KA8:Hid (∀ w0 w':World,Below W.heap.size W w0→Turn [w.heap.size+1] w0 w'→w'.cell? ⟨w.heap.size,0,none⟩=some (.int .u8 (A.node:Int))∧w'.cell? ⟨w.heap.size,1,none⟩=some (.int .u32 (A.mode:Int))∧w'.cell? ⟨w.heap.size,2,none⟩=some (.int .u32 (A.uid:Int))∧w'.cell? ⟨w.heap.size,3,none⟩=some (.int .u32 (A.gid:Int))∧w'.cell? ⟨w.heap.size,4,none⟩=some (.int .i64 A.mtime)∧w'.cell? ⟨w.heap.size,5,none⟩=some (.string ⟨A.target.toArray⟩)):=hid (fun w0 w' hb0 ht=>by
  have h1:=(hb0.block _ (lt_of_heap hq0)).trans hq0
  have h0:=(ht.block _ (lt_of_heap h1) (by simp)).trans h1
  exact⟨cell_of_heap h0,cell_of_heap h0,cell_of_heap h0,cell_of_heap h0,cell_of_heap h0,cell_of_heap h0⟩)
 have HQ0:=hid hq0;have HB0:=hid hb0;have HW:=hid hW;have HXL:=hid hxl;have HXC:=hid hxc
 have hbs:∀ w,(Instr.buildSlice 77 1 #[(0,.agg #[.string ⟨#[109,97,114,107]⟩,.string ⟨#[]⟩])]).run Tryz.prog w= .ok (.slice (some ⟨w.heap.size,0,none⟩) 1 1) (w.alloc (.cells #[.string ⟨#[109,97,114,107]⟩,.string ⟨#[]⟩] 123)):=fun w=>
  run_buildOneN 2 (by decide) (by decide) w _ _ i0 _ (xpair ([109,97,114,107],[])) Tryz.underlying77 hi0 hz0 hz1 rfl
 have HBS:=hid hbs
 unfold maxLen at hxm
 clear hb0 hq0 hr0 hW hxl hxc hxs hbs
 go_enter Tryz.func46,Tryz.ntmps46
 go_wp2
 have he:A.cells (.slice xa A.xs.length xc)=A.cells (.slice xa xs.length xc):=by rw[HXE.out]
 rw[he]
 change Code.wp _ _ _ _ ((w.alloc (.cells (A.cells (.slice xa xs.length xc)).toArray 67)).alloc (.cells (zeroA.cells (.slice none 0 0)).toArray AtT))
 rw[←HW.out]
 clear he
 go_loopw [3,4] (fun v3 v4 wr=>∃ i:Nat,i≤xs.length∧v4= .int .i64 (i:Int)∧∃ va vc,v3= .slice va i vc∧Hid (wr.ownsRow W.heap.size 123 2 (.slice va i vc) i (xcells (xs.take i)))∧Hid (Below W.heap.size W wr)) (fun _ v4 _=>xs.length - (RowKit.intOf v4).toNat)
 case atStart=>exact ⟨0,by omega,rfl,none,0,rfl,hid (rowS_nil _ _ _ _),hid (Below.refl _ _)⟩
 case round=>
  obtain⟨i,hi,rfl,va,vc,rfl,HO,HB⟩:=hrel
  have c6:=K6.out _ HB.out
  by_cases hil:(i:Int) < (xs.length:Int)
  · have hi2:i < xs.length:=by omega
    obtain⟨x,hx⟩:∃ x,xs[i]? =some x:=⟨_,List.getElem?_eq_getElem hi2⟩
    obtain⟨b,o,rfl,hb,hcl⟩:=HXC.out (fun h=>by rw[h] at hi2;cases hi2)
    have KS:Hid (∀ w',Below W.heap.size W w'→w'.cell? ⟨w.heap.size,6,none⟩=some (.slice (some ⟨b,o,none⟩) xs.length xc)∧w'.cell? ⟨b,o+i*2,none⟩=some (.string ⟨x.1.toArray⟩)∧w'.cell? ⟨b,o+i*2+1,none⟩=some (.string ⟨x.2.toArray⟩)):=hid (fun w' hw=>by
     obtain⟨c1,c2⟩:=hcl i x hx
     have hb2:=HB0.out.trans (hw.mono HB0.out.size)
     exact⟨K6.out w' hw,(World.cell?_of_block (a:=⟨b,o+i*2,none⟩) (hb2.block b hb)).trans c1,(World.cell?_of_block (a:=⟨b,o+i*2+1,none⟩) (hb2.block b hb)).trans c2⟩)
    have HTK:Hid (xcells (xs.take (i+1))=xcells (xs.take i)++xpair x):=hid (by rw[List.take_add_one,hx,xcells_app];rfl)
    clear hcl hx
    go_wp2
    refine wp_region_held_drew (S:=(fun w':World=>w'.cell? ⟨w.heap.size,6,none⟩=some (.slice (some ⟨b,o,none⟩) xs.length xc)∧w'.cell? ⟨b,o+i*2,none⟩=some (.string ⟨x.1.toArray⟩)∧w'.cell? ⟨b,o+i*2+1,none⟩=some (.string ⟨x.2.toArray⟩))) (by kernel_rfl) (KS.out _ HB.out.drew) (fun zh=>?_)
    iterate 10
     first|refine' tj 0 rfl rfl (fun _ _ _ h=>h) ?_ zh ?_|refine' tj 1 rfl rfl (fun _ _ _ h=>h) ?_ zh ?_|refine' tj 2 rfl rfl (fun _ _ _ h=>h) ?_ zh ?_|refine' tj 3 rfl rfl (fun _ _ _ h=>h) ?_ zh ?_|refine' tj 4 rfl rfl (fun _ _ _ h=>h) ?_ zh ?_|refine' tj 5 rfl rfl (fun _ _ _ h=>h) ?_ zh ?_|refine' tj 6 rfl rfl (fun _ _ _ h=>h) ?_ zh ?_|refine' tj 7 rfl rfl (fun _ _ _ h=>h) ?_ zh ?_|refine' tj 8 rfl rfl (fun _ _ _ h=>h) ?_ zh ?_|refine' tj 9 rfl rfl (fun _ _ _ h=>h) ?_ zh ?_
     rotate_left
     · intro wS hS;obtain⟨k0,k1,k2⟩:=hS;go_simp;try rfl
     try simp only[Act.put,zA,zB,zC,zD,zE,zF]
    iterate 4
     first|refine' tj 10 rfl rfl (fun _ _ _ h=>h) ?_ zh ?_|refine' tj 11 rfl rfl (fun _ _ _ h=>h) ?_ zh ?_|refine' tj 12 rfl rfl (fun _ _ _ h=>h) ?_ zh ?_|refine' tj 13 rfl rfl (fun _ _ _ h=>h) ?_ zh ?_
     rotate_left
     · intro wS hS;obtain⟨k0,k1,k2⟩:=hS;go_simp;try rfl
     try simp only[Act.put,zA,zB,zC,zD,zE,zF]
    refine wpAnyH_ready (rs:=[14]) (by kernel_rfl) (by simp) ?_
    refine AllReadyH.cons rfl (fun K hK=>?_) AllReadyH.nil
    refine step_wp rfl ?_
    refine wp_oneN 2 (by decide) (by decide) 77 123 (.tmp 26) (xpair x) i0 _ rfl ?xo1 Tryz.underlying77 hi0 hz0 hz1 rfl ?_
    case xo1=>rfl
    have HB5:=hid (HB.out.drew.alloc HB.out.size (.cells (xpair x).toArray 123))
    obtain⟨w5,hw5⟩:∃ w5,w5=wr.drew.alloc (.cells (xpair x).toArray 123):=⟨_,rfl⟩
    have HQ5:Hid (w5.heap[wr.heap.size]? =some (.cells (xpair x).toArray 123)):=hid (by rw[hw5];exact(MapKept.heap_alloc wr.drew _).1)
    have HO5:Hid (w5.ownsRow W.heap.size 123 2 (.slice va i vc) i (xcells (xs.take i))):=hid (rowS_kept HO.out (fun y _ hl=>by rw[hw5];exact((Below.refl wr.heap.size wr).drew.alloc (Nat.le_refl _) _).block y hl))
    rw[←hw5] at HB5 ⊢
    clear hw5
    refine hK.out _ _ (KS.out _ HB5.out) ?_
    clear hK K zh
    intro zh
    try simp only[Act.put,zA,zB,zC,zD,zE,zF]
    refine wpAnyH_ready (rs:=[15]) (by kernel_rfl) (by simp) ?_
    refine AllReadyH.cons rfl (fun K hK=>?_) AllReadyH.nil
    refine step_wp rfl ?_
    refine wp_appendN 2 (by decide) (.tmp 13) (.tmp 27) 77 rfl W.heap.size 123 i0 _ 32 Tryz.underlying77 hi0 hz0 hz1 hz2 hz3 (.slice va i vc) i (xcells (xs.take i)) ?xa1 HO5.out ⟨wr.heap.size,0,none⟩ 1 1 (xpair x) ?xa2 ?xa3 rfl (xpair_one x) ?xa4 ?xa5 HB5.out.size ?_
    case xa1=>rfl
    case xa2=>rfl
    case xa3=>intro j u hj;rw[Addr.add_lit,Nat.zero_add,cell_of_heap HQ5.out,List.getElem?_toArray];exact hj
    case xa4=>unfold maxLen;omega
    case xa5=>omega
    intro v6 w6 ho6 hg6 hx6
    have HB6:Hid (Below W.heap.size W w6):=hid (HB5.out.grown hg6 HB5.out.size (fun k hk=>rowS_ge HO5.out k (by simp[ob,hk])))
    have HO6:Hid (w6.ownsRow W.heap.size 123 2 v6 (i+1) (xcells (xs.take (i+1)))):=hid (by rw[HTK.out];exact ho6)
    obtain⟨a6,c6,rfl⟩:=rowS_slice ho6
    clear ho6 hg6 hx6
    refine hK.out _ _ (KS.out _ HB6.out) ?_
    clear hK K zh
    intro zh
    try simp only[Act.put,zA,zB,zC,zD,zE,zF]
    refine' tk 16 rfl (fun _ _ _ h=>h) ?ia16 zh ?_
    case ia16=>intro wS hS;obtain⟨k0,k1,k2⟩:=hS;go_simp;try rfl
    try simp only[Act.put,zA,zB,zC,zD,zE,zF]
    refine wpAnyH_done (by kernel_rfl) ?_ _
    clear zh
    try simp only[Act.put,zA,zB,zC,zD,zE,zF]
    go_wp2
    go_roundw
    case rel=>exact ⟨i+1,by omega,by go_num,_,_,rfl,HO6,HB6⟩
    case measure=>simp [RowKit.intOf];omega
  · obtain rfl:i=xs.length:=by omega
    have HO2:Hid (wr.ownsRow W.heap.size 123 2 (.slice va xs.length vc) xs.length (xcells xs)):=hid (by have:=HO.out;rw[List.take_length] at this;exact this)
    obtain⟨n,hn⟩:∃ n,n=xs.length:=⟨_,rfl⟩
    rw[←hn] at HO2 hz hxm c6 ⊢
    have HN:=hid hn
    clear hn
    have hbs:=HBS.out
    obtain⟨w5,hw5⟩:∃ w5,w5=wr.alloc (.cells #[.string ⟨#[109,97,114,107]⟩,.string ⟨#[]⟩] 123):=⟨_,rfl⟩
    have HQ5:Hid (w5.heap[wr.heap.size]? =some (.cells (xpair ([109,97,114,107],[])).toArray 123)):=hid (by rw[hw5];exact(MapKept.heap_alloc wr _).1)
    have HB5:Hid (Below W.heap.size W w5):=hid (by rw[hw5];exact HB.out.alloc HB.out.size _)
    have HO5:Hid (w5.ownsRow W.heap.size 123 2 (.slice va n vc) n (xcells xs)):=hid (rowS_kept HO2.out (fun y _ hl=>by rw[hw5];exact((Below.refl wr.heap.size wr).alloc (Nat.le_refl _) _).block y hl))
    have HOX:Hid ((wr.alloc (.cells #[.string ⟨#[109,97,114,107]⟩,.string ⟨#[]⟩] 123)).ownsRow W.heap.size 123 2 (.slice va n vc) n (xcells xs)):=hid (by rw[←hw5];exact HO5.out)
    have HMK:Hid (∀ (j:Nat) u,(xpair ([109,97,114,107],[]))[j]? =some u→(wr.alloc (.cells #[.string ⟨#[109,97,114,107]⟩,.string ⟨#[]⟩] 123)).cell? ((⟨wr.heap.size,0,none⟩:Addr).add j)=some u):=hid (fun j u hj=>by
     rw[←hw5,Addr.add_lit,Nat.zero_add,cell_of_heap HQ5.out,List.getElem?_toArray];exact hj)
    have HW5:=hid hw5
    clear hw5 hil hi
    go_wp2_with (at_builtin;refine wpList_append_own_at _ rfl _ _ 77 rfl W.heap.size 123 i0 _ 2 32 Tryz.underlying77 hi0 hz0 hz1 hz2 hz3 (by decide) _ _ _ rfl HOX.out ⟨wr.heap.size,0,none⟩ 1 1 (xpair ([109,97,114,107],[])) rfl rfl HMK.out (xpair_one _) (by unfold maxLen;omega) (by omega) (by rw[←HW5.out];exact HB5.out.size) ?_)
    rw[←HW5.out]
    intro v7 w7 ho7 hg7 hn7 hx7
    have HB7:Hid (Below W.heap.size W w7):=hid (HB5.out.grown hg7 HB5.out.size (fun k hk=>rowS_ge HO5.out k (by simp[ob,hk])))
    have ho7:w7.ownsRow W.heap.size 123 2 v7 (xs++[([109,97,114,107],[])]).length (xcells (xs++[([109,97,114,107],[])])):=by
     rw[xcells_app,List.length_append,←HN.out];exact ho7
    obtain⟨g7,c7,rfl,_,_,hc7,_⟩:=rowS_form ho7 (by simp)
    have HX7:=hid ho7
    have hl7:(xs++[([109,97,114,107],[])]).length=n+1:=by rw[List.length_append,←HN.out];rfl
    rw[hl7] at HX7 hc7 ⊢
    have hc8:(n:Int)≤(c7:Int):=by omega
    have hc9:n≤c7:=by omega
    have HCU:Hid (c7≤maxLen):=hid (by
     obtain⟨_,⟨h0,_⟩|⟨_,_,_,hv2,_,_,_,h2,_⟩⟩:=ho7
     · cases h0
     · injection hv2 with _ _ e3;rw[e3];exact h2)
    clear ho7 hg7 hn7 hx7 hl7 hbs HOX HMK hc7 c6
    go_wp2
    refine wp_region_held_drew (S:=(fun w':World=>w'.cell? ⟨w.heap.size,0,none⟩=some (.int .u8 (A.node:Int))∧w'.cell? ⟨w.heap.size,1,none⟩=some (.int .u32 (A.mode:Int))∧w'.cell? ⟨w.heap.size,2,none⟩=some (.int .u32 (A.uid:Int))∧w'.cell? ⟨w.heap.size,3,none⟩=some (.int .u32 (A.gid:Int))∧w'.cell? ⟨w.heap.size,4,none⟩=some (.int .i64 A.mtime)∧w'.cell? ⟨w.heap.size,5,none⟩=some (.string ⟨A.target.toArray⟩))) (by kernel_rfl) (KA.out _ HB7.out.drew) (fun zh=>?_)
    iterate 10
     first|refine' tj 0 rfl rfl (fun _ _ _ h=>h) ?_ zh ?_|refine' tj 1 rfl rfl (fun _ _ _ h=>h) ?_ zh ?_|refine' tj 2 rfl rfl (fun _ _ _ h=>h) ?_ zh ?_|refine' tj 3 rfl rfl (fun _ _ _ h=>h) ?_ zh ?_|refine' tj 4 rfl rfl (fun _ _ _ h=>h) ?_ zh ?_|refine' tj 5 rfl rfl (fun _ _ _ h=>h) ?_ zh ?_|refine' tj 6 rfl rfl (fun _ _ _ h=>h) ?_ zh ?_|refine' tj 7 rfl rfl (fun _ _ _ h=>h) ?_ zh ?_|refine' tj 8 rfl rfl (fun _ _ _ h=>h) ?_ zh ?_|refine' tj 9 rfl rfl (fun _ _ _ h=>h) ?_ zh ?_
     rotate_left
     · intro wS hS;obtain⟨k0,k1,k2,k3,k4,k5⟩:=hS;go_simp;try rfl
     try simp only[Act.put,zA,zB,zC,zD,zE,zF]
    iterate 6
     first|refine' tj 10 rfl rfl (fun _ _ _ h=>h) ?_ zh ?_|refine' tj 11 rfl rfl (fun _ _ _ h=>h) ?_ zh ?_|refine' tj 12 rfl rfl (fun _ _ _ h=>h) ?_ zh ?_|refine' tj 13 rfl rfl (fun _ _ _ h=>h) ?_ zh ?_|refine' tj 14 rfl rfl (fun _ _ _ h=>h) ?_ zh ?_|refine' tj 15 rfl rfl (fun _ _ _ h=>h) ?_ zh ?_
     rotate_left
     · intro wS hS;obtain⟨k0,k1,k2,k3,k4,k5⟩:=hS;go_simp;try rfl
     try simp only[Act.put,zA,zB,zC,zD,zE,zF]
    refine wpAnyH_ready (rs:=[16]) (by kernel_rfl) (by simp) ?_
    refine AllReadyH.cons rfl (fun K hK=>?_) AllReadyH.nil
    refine step_wp rfl ?_
    refine wp_store_at (KZ.out _ HB7.out.drew) _ _ _ rfl (A.cells (.slice (some ⟨g7,0,none⟩) n c7)).toArray rfl rfl (infoAt _ _) rfl (atOne A rfl) ?_
    intro w8 hq8 ht8 hs8
    have HQ8:=hid hq8;have HT8:=hid ht8;have HA8:=hid (KA8.out _ _ HB7.out.drew ht8)
    clear hq8 ht8 hs8
    refine hK.out _ _ HA8.out ?_
    clear hK K zh
    intro zh
    try simp only[Act.put,zA,zB,zC,zD,zE,zF]
    refine wpAnyH_done (by kernel_rfl) ?_ _
    clear zh
    try simp only[Act.put,zA,zB,zC,zD,zE,zF]
    go_wp2
    refine bodyPost_ret (v:= .agg (A.cells (.slice (some ⟨g7,0,none⟩) n c7)).toArray) (results_cell_row (fn:=Tryz.f46) rfl _ _ (w.heap.size+1) _ _ _ _ rfl HQ8.out Tryz.underlying79 rfl (infoAt _ _)) rfl ?_
    have hsz:w.heap.size+1 < W.heap.size:=lt_of_heap (KZ.out W (Below.refl _ _))
    have h7:=HX7.out
    have hge:=rowS_ge h7
    refine⟨g7,c7,by rw[←HXE.out,HN.out],?_,by rw[←HXE.out];exact HXL.out,(HB0.out.trans (HB7.out.drew.mono HB0.out.size)).trans (HT8.out.below (by simp) (Nat.le_trans HB0.out.size HB7.out.size))⟩
    rw[←HXE.out,←HN.out]
    exact row_mono (rowS_kept h7 (fun b hb hl=>HT8.out.block b hl (by have:=hge b hb;simp;omega))) HB0.out.size
structure RN where
 nm:PN
 ino:Nat
 tick:Int
 at_:XA
 data:List UInt8
 nv:Value
 xv:Value
def RN.te (n:RN):TE:=⟨n.nm,n.ino,n.tick,n.at_,n.data,0,none,.slice none 0 0⟩
structure GoodF (k:Nat) (F:Tr):Prop where
 srt:SrtT F.L
 root:∃ e,getT [] F.L=some e
 par:∀ e∈F.L,∀ n s,e.nm=n++[s]→∃ u∈F.L,u.nm=n∧u.at_.node=2
 deep:∀ e∈F.L,e.nm.length≤16
 names:∀ e∈F.L,∀ s∈e.nm,chk s=true
 att:∀ e∈F.L,chkA e.at_=true
 data:∀ e∈F.L,e.data.length≤1048576
 most:F.most≤k+1
 len:F.L.length≤k+1
theorem pre_at {a b:PN}:a.isPrefixOf b=true ↔ a.length≤b.length∧∀ (i:Nat) x,a[i]? =some x→b[i]? =some x:=by
 rw[List.isPrefixOf_iff_prefix]
 constructor
 · rintro ⟨t,rfl⟩
   refine⟨by simp,fun i x hx=>?_⟩
   rw[List.getElem?_append_left (List.getElem?_eq_some_iff.1 hx).1];exact hx
 · rintro ⟨hl,h⟩
   rw[List.prefix_iff_eq_take]
   refine List.ext_getElem? (fun i=>?_)
   rw[List.getElem?_take]
   by_cases hi:i < a.length
   · rw[if_pos hi]
     have:=h i a[i] (List.getElem?_eq_getElem hi)
     rw[this,List.getElem?_eq_getElem hi]
   · rw[if_neg hi,List.getElem?_eq_none (by omega)]
theorem pre_len {a b:PN} (h:a.length=b.length):a.isPrefixOf b=decide (b=a):=by
 rw[Bool.eq_iff_iff,List.isPrefixOf_iff_prefix,decide_eq_true_eq]
 constructor
 · intro hp;exact(hp.eq_of_length h).symm
 · rintro rfl;exact List.prefix_refl _
theorem ahd_drop {a b:PN} {i:Nat} (h:a.take i=b.take i):ahd a b=ahd (a.drop i) (b.drop i):=by
 conv=>lhs;rw[←List.take_append_drop i a,←List.take_append_drop i b,h]
 rw[ahd_pre]
def atI (l:PN) (L:List TE):Int:=match L.findIdx? (fun e=>decide (e.nm=l)) with|some i=>(i:Int)|none=> -1
theorem atI_none {l:PN} {L:List TE}:atI l L= -1 ↔ getT l L=none:=by
 rw[atI,getT]
 cases h:L.findIdx? (fun e=>decide (e.nm=l)) with
 |none=>
  rw[List.findIdx?_eq_none_iff] at h
  simp only[true_iff]
  rw[List.find?_eq_none]
  intro x hx;simp[h x hx]
 |some i=>
  constructor
  · intro h1;dsimp only at h1;omega
  · intro h1
    rw[List.find?_eq_none] at h1
    obtain⟨hl,hp,_⟩:=List.findIdx?_eq_some_iff_getElem.1 h
    exact absurd hp (by have:=h1 _ (List.getElem_mem hl);simpa using this)
theorem atI_some {l:PN} {L:List TE} {i:Nat} {e:TE} (hs:SrtT L) (he:L[i]? =some e) (hn:e.nm=l):atI l L=(i:Int)∧getT l L=some e:=by
 have hm:=List.mem_of_getElem? he
 have hg:=getT_of hs hm
 rw[hn] at hg
 refine⟨?_,hg⟩
 rw[atI]
 cases h:L.findIdx? (fun e=>decide (e.nm=l)) with
 |none=>
  rw[List.findIdx?_eq_none_iff] at h
  have:=h e hm
  simp[hn] at this
 |some j=>
  obtain⟨hl,hp,_⟩:=List.findIdx?_eq_some_iff_getElem.1 h
  obtain⟨hi,rfl⟩:=List.getElem?_eq_some_iff.1 he
  have h1:L[j].nm=L[i].nm:=by rw[hn];simpa using hp
  rcases Nat.lt_trichotomy i j with hlt|heq|hgt
  · exact absurd h1.symm (ahd_ne (List.pairwise_iff_getElem.1 hs i j hi hl hlt))
  · rw[heq]
  · exact absurd h1 (ahd_ne (List.pairwise_iff_getElem.1 hs j i hl hi hgt))
theorem atI_end {l:PN} {L:List TE} (h:∀ (j:Nat) e,L[j]? =some e→e.nm≠l):atI l L= -1:=by
 rw[atI_none,getT_none]
 intro e he
 obtain⟨j,hj⟩:=List.mem_iff_getElem?.1 he
 exact h j e hj
theorem atI_get {l:PN} {L:List TE} {e:TE} (hs:SrtT L) (h:getT l L=some e):∃ i:Nat,L[i]? =some e∧atI l L=(i:Int):=by
 obtain⟨hm,hn⟩:=getT_nm h
 obtain⟨i,hi⟩:=List.mem_iff_getElem?.1 hm
 exact⟨i,hi,(atI_some hs hi hn).1⟩
def kidB (l m:PN):Bool:=decide (m.length=l.length+1) && l.isPrefixOf m
theorem kidB_eq (l:PN) (e:TE):(kidOf l e).isSome=kidB l e.nm:=by
 rw[Bool.eq_iff_iff,Option.isSome_iff_exists,kidB,Bool.and_eq_true,decide_eq_true_eq,List.isPrefixOf_iff_prefix]
 constructor
 · rintro ⟨k,hk⟩
   rw[(kidOf_some.1 hk).1]
   exact⟨by simp,List.prefix_append _ _⟩
 · rintro ⟨hl,t,ht⟩
   have:t.length=1:=by rw[←ht,List.length_append] at hl;omega
   obtain⟨s,rfl⟩:=List.length_eq_one_iff.1 this
   exact⟨(s,e.p),kidOf_some.2 ⟨ht.symm,rfl⟩⟩
theorem kids_count (L:List TE) (l:PN):(kidsT L l).length=L.countP fun e=>kidB l e.nm:=by
 rw[kidsT,List.length_filterMap_eq_countP]
 congr 1
 funext e;exact kidB_eq l e
def insR (e:RN):List RN→List RN
 |[]=>[e]
 |y::r=>if ahd e.nm y.nm then e::y::r else y::insR e r
theorem insR_te (e:RN):∀ R:List RN,(insR e R).map RN.te=insT e.te (R.map RN.te)
 |[]=>rfl
 |y::r=>by
  rw[insR,List.map_cons,insT]
  show _=if ahd e.nm y.nm then _ else _
  by_cases h:ahd e.nm y.nm=true
  · rw[if_pos h,if_pos h];rfl
  · rw[if_neg h,if_neg h,List.map_cons,insR_te e r]
def putD (e:RN) (R:List RN):Bool:=R.any fun y=>ahd e.nm y.nm
theorem putD_snoc (e:RN) (A:List RN) (y:RN):putD e (A++[y])=(putD e A||ahd e.nm y.nm):=by
 rw[putD,List.any_append];simp[putD]
theorem insR_not {e:RN} (B:List RN):∀ {A:List RN},putD e A=false→insR e (A++B)=A++insR e B
 |[],_=>rfl
 |y::r,h=>by
  rw[putD,List.any_cons,Bool.or_eq_false_iff] at h
  rw[List.cons_append,insR,if_neg (by rw[h.1];decide),insR_not B (A:=r) h.2,List.cons_append]
theorem insR_done {e:RN} (B:List RN):∀ {A:List RN},putD e A=true→insR e (A++B)=insR e A++B
 |[],h=>by cases h
 |y::r,h=>by
  rw[List.cons_append,insR,insR]
  by_cases hy:ahd e.nm y.nm=true
  · rw[if_pos hy,if_pos hy];rfl
  · rw[if_neg hy,if_neg hy,List.cons_append,insR_done B (A:=r)]
    rw[putD,List.any_cons] at h
    rcases Bool.or_eq_true_iff.1 h with h|h
    · exact absurd h hy
    · exact h
def putL (e:RN) (A:List RN):List RN:=if putD e A then insR e A else A
theorem putL_done {e y:RN} {A:List RN} (h:putD e A=true):putL e (A++[y])=putL e A++[y]:=by
 rw[putL,putL,putD_snoc,h,Bool.true_or,if_pos rfl,if_pos rfl,insR_done _ h]
theorem putL_here {e y:RN} {A:List RN} (h:putD e A=false) (hy:ahd e.nm y.nm=true):putL e (A++[y])=putL e A++[e]++[y]:=by
 rw[putL,putL,putD_snoc,h,hy,Bool.or_true,if_pos rfl,if_neg (by decide),insR_not _ h,insR,if_pos hy];simp
theorem putL_on {e y:RN} {A:List RN} (h:putD e A=false) (hy:ahd e.nm y.nm=false):putL e (A++[y])=putL e A++[y]:=by
 rw[putL,putL,putD_snoc,h,hy,if_neg (by decide),if_neg (by decide)]
theorem putL_end {e:RN} {R:List RN}:(putD e R=true→putL e R=insR e R)∧(putD e R=false→putL e R++[e]=insR e R):=by
 constructor
 · intro h;rw[putL,if_pos h]
 · intro h
   have:=insR_not (e:=e) [] h
   rw[List.append_nil] at this
   rw[putL,if_neg (by rw[h];decide),this];rfl
theorem insR_mem {e x:RN}:∀ {R:List RN},x∈insR e R ↔ x=e∨x∈R
 |[]=>by simp[insR]
 |y::r=>by
  rw[insR];split
  · simp
  · rw[List.mem_cons,insR_mem (R:=r),List.mem_cons]
    constructor
    · rintro (h|h|h)
      · exact .inr (.inl h)
      · exact .inl h
      · exact .inr (.inr h)
    · rintro (h|h|h)
      · exact .inr (.inl h)
      · exact .inl h
      · exact .inr (.inr h)
theorem insR_len {e:RN}:∀ {R:List RN},(insR e R).length=R.length+1
 |[]=>rfl
 |y::r=>by
  rw[insR];split
  · rfl
  · rw[List.length_cons,insR_len (R:=r),List.length_cons]
abbrev RnT:TypeId:=86
abbrev RtT:TypeId:=89
def RN.cells (n:RN):List Value:=n.nv::(n.at_.cells n.xv++[.string ⟨n.data.toArray⟩,.int .u64 (n.ino:Int),.int .i64 n.tick])
abbrev rnV (n:RN):Value:= .agg n.cells.toArray
theorem rn_len (n:RN):n.cells.length=11:=rfl
def rcells (R:List RN):List Value:=R.flatMap RN.cells
theorem rcells_append (A B:List RN):rcells (A++B)=rcells A++rcells B:=by rw[rcells,List.flatMap_append];rfl
theorem rcells_one (A:List RN) (n:RN):rcells A++n.cells=rcells (A++[n]):=by rw[rcells_append];simp[rcells]
theorem rcells_length:∀ R:List RN,(rcells R).length=11*R.length
 |[]=>rfl
 |n::r=>by
  rw[rcells,List.flatMap_cons,List.length_append,rn_len,←rcells,rcells_length r,List.length_cons];omega
theorem rcells_at {R:List RN} {j:Nat} {n:RN} (hj:R[j]? =some n) {t:Nat} {v:Value} (hv:n.cells[t]? =some v):(rcells R)[j*11+t]? =some v:=by
 obtain⟨hjl,rfl⟩:=List.getElem?_eq_some_iff.1 hj
 have e1:R=R.take j++(R[j]::R.drop (j+1)):=by rw[←List.drop_eq_getElem_cons hjl,List.take_append_drop]
 have ht:=(List.getElem?_eq_some_iff.1 hv).1
 have e2:rcells R=rcells (R.take j)++(R[j].cells++rcells (R.drop (j+1))):=by
  conv=>lhs;rw[e1]
  rw[rcells_append];rfl
 rw[e2,List.getElem?_append_right (by rw[rcells_length,List.length_take];omega),rcells_length,List.length_take,Nat.min_eq_left (by omega),show j*11+t - 11*j=t by omega,List.getElem?_append_left ht]
 exact hv
theorem rxs_one {w:World} {v:Value} {xs:List (List UInt8×List UInt8)} (h:XsAt w v xs):v.oneCell'=true:=by
 obtain⟨a,c,rfl,_⟩:=h;rfl
theorem strs_one {w:World} {v:Value} {ps:PN} (h:St.StrsAt w v ps):v.oneCell'=true:=by
 obtain⟨a,c,rfl,_⟩:=h;rfl
theorem rn_ones {n:RN} (h1:n.nv.oneCell'=true) (h2:n.xv.oneCell'=true):∀ u∈n.cells,u.oneCell'=true:=by
 intro u hu
 simp only[RN.cells,XA.cells,List.mem_cons,List.not_mem_nil,or_false,List.cons_append,List.nil_append] at hu
 rcases hu with rfl|rfl|rfl|rfl|rfl|rfl|rfl|rfl|rfl|rfl|rfl <;> first|rfl|assumption
def robN (n:RN):List Nat:=ob n.nv++xob n.at_.xs n.xv
def robL (R:List RN):List Nat:=R.flatMap robN
def rblk (r:Nat) (v:Value) (R:List RN):List Nat:=r::(ob v++robL R)
theorem robL_mem {R:List RN} {n:RN} {b:Nat} (hn:n∈R) (hb:b∈robN n):b∈robL R:=List.mem_flatMap.2 ⟨n,hn,hb⟩
structure RTree (B:Nat) (w:World) (r:Nat) (v:Value) (R:List RN) (F:Tr):Prop where
 book:w.heap[r]? =some (.cells #[v,.int .i64 (F.clock:Int),.int .u64 (F.most:Int),.int .i64 (F.reads:Int)] RtT)
 row:w.ownsRow B RnT 11 v R.length (rcells R)
 off:∀ x∈ob v,x≠r
 base:B≤r
 node:∀ n∈R,PathAt B w n.nv n.nm∧XsAt w n.xv n.at_.xs
 apart:∀ b∈robL R,B≤b∧b≠r∧b ∉ ob v
 is:F.L=R.map RN.te
section
variable {B:Nat} {w w':World} {r:Nat} {v:Value} {R:List RN} {F:Tr}
theorem RTree.lt (h:RTree B w r v R F):∀ b∈rblk r v R,b < w.heap.size:=by
 intro b hb
 rw[rblk,List.mem_cons,List.mem_append] at hb
 rcases hb with rfl|hb|hb
 · exact lt_of_heap h.book
 · exact rowS_lt h.row b hb
 · obtain⟨n,hn,hb⟩:=List.mem_flatMap.1 hb
   rcases List.mem_append.1 hb with hb|hb
   · exact rowS_lt (h.node n hn).1.row b hb
   · exact(h.node n hn).2.lt b hb
theorem RTree.kept (h:RTree B w r v R F) (hs:w.heap.size≤w'.heap.size) (hb:∀ b∈rblk r v R,w'.heap[b]? =w.heap[b]?):RTree B w' r v R F:=by
 have hrow:∀ b∈robL R,w'.heap[b]? =w.heap[b]? :=fun b hx=>hb b (by rw[rblk,List.mem_cons,List.mem_append];exact .inr (.inr hx))
 refine⟨(hb r (by simp[rblk])).trans h.book,rowS_kept h.row (fun b hx _=>hb b (by rw[rblk,List.mem_cons,List.mem_append];exact .inr (.inl hx))),h.off,h.base,fun n hn=>⟨?_,?_⟩,h.apart,h.is⟩
 · exact(h.node n hn).1.kept (fun b hx=>hrow b (robL_mem hn (List.mem_append_left _ hx)))
 · exact(h.node n hn).2.kept hs (fun b hx=>hrow b (robL_mem hn (List.mem_append_right _ hx)))
theorem RTree.below (h:RTree B w r v R F) (hb:Below w.heap.size w w'):RTree B w' r v R F:=
 h.kept hb.size (fun b hx=>hb.block b (h.lt b hx))
theorem RTree.mono {B':Nat} (h:RTree B w r v R F) (hB:B'≤B):RTree B' w r v R F:=
 ⟨h.book,row_mono h.row hB,h.off,Nat.le_trans hB h.base,fun n hn=>⟨⟨row_mono (h.node n hn).1.row hB,(h.node n hn).1.len⟩,(h.node n hn).2⟩,fun b hb=>⟨Nat.le_trans hB (h.apart b hb).1,(h.apart b hb).2⟩,h.is⟩
theorem RTree.len (h:RTree B w r v R F):R.length=F.L.length:=by rw[h.is,List.length_map]
theorem RTree.ent {g n cap:Nat} (h:RTree B w r (.slice (some ⟨g,0,none⟩) n cap) R F) {i:Nat} {e:RN} (he:R[i]? =some e):w.rangeAt g (i*11) e.cells:=by
 obtain⟨h1,⟨hc,_⟩|⟨g',cap',cur,hv,a1,a2,a3,a4,a5,a6⟩⟩:=h.row
 · cases hc
 · injection hv with e1 e2 e3
   injection e1 with e1
   injection e1 with e1
   subst e1
   intro t u hu
   rw[cell_of_heap a2]
   have hk:=rcells_at he hu
   rw[←a6] at hk
   have hlt:i*11+t < R.length*11:=by
    have:=(List.getElem?_eq_some_iff.1 hk).1
    rw[List.length_take] at this
    omega
   rw[List.getElem?_take_of_lt hlt,Array.getElem?_toList] at hk
   exact hk
theorem RTree.form (h:RTree B w r v R F) (hne:R.length≠0):∃ g cap,v= .slice (some ⟨g,0,none⟩) R.length cap∧g < w.heap.size:=by
 obtain⟨g,cap,hv,hg,_⟩:=rowS_form h.row hne
 exact⟨g,cap,hv,hg⟩
theorem RTree.get (h:RTree B w r v R F) {i:Nat} {e:TE} (he:F.L[i]? =some e):∃ n,R[i]? =some n∧n.te=e:=by
 rw[h.is,List.getElem?_map] at he
 cases hr:R[i]? with
 |none=>rw [hr] at he;cases he
 |some n=>rw [hr] at he;exact⟨n,rfl,Option.some.inj he⟩
theorem RTree.at_ (h:RTree B w r v R F) {i:Nat} {n:RN} (hn:R[i]? =some n):F.L[i]? =some n.te:=by
 rw[h.is,List.getElem?_map,hn];rfl
end
def RPost (B:Nat) (w:World) (r:Nat) (v:Value) (R:List RN) (F':Tr) (c:Int) (e:Ending) (w':World):Prop:=
 e= .returned (.int .i64 c)∧∃ v' R',RTree B w' r v' R' F'∧Turn (r::ob v) w w'∧(∀ b∈rblk r v' R',b∈rblk r v R∨w.heap.size≤b)∧∀ b∈ob v',b∈ob v∨w.heap.size≤b
theorem rpost_same {B:Nat} {w w':World} {r:Nat} {v:Value} {R:List RN} {F:Tr} {c:Int} {e:Ending} (h:RTree B w r v R F) (hb:Below w.heap.size w w') (he:e= .returned (.int .i64 c)):RPost B w r v R F c e w':=
 ⟨he,v,R,h.below hb,Turn.of_below hb,fun _ hb=> .inl hb,fun _ hb=> .inl hb⟩
end Go.Proofs.YtnmejonfdfdegaaGreatDoor.Sr
