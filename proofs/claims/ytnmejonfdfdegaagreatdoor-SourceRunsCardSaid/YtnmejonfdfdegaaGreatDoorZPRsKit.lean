import Derived.Test.YtnmejonfdfdegaaGreatDoorZPSrQuad
import Derived.Test.YtnmejonfdfdegaaGreatDoorZPSrDoes
import Derived.Test.YtnmejonfdfdegaaGreatDoorZPSrAsked
import Derived.Test.YtnmejonfdfdegaaGreatDoorZPSrVal18
import Derived.Test.YtnmejonfdfdegaaGreatDoorZPSrTwin
import Derived.Test.YtnmejonfdfdegaaGreatDoorZPZz
set_option linter.unusedSimpArgs false
set_option linter.unusedVariables false
set_option maxHeartbeats 40000000
set_option maxRecDepth 100000
namespace Go.Proofs.YtnmejonfdfdegaaGreatDoor.Sr
open Go.RowKit Go.Maps Go.WideMaps Rf Go.Proofs.YtnmejonfdfdegaaGreatDoor.Nm St
noncomputable def rsR (n:Nat):Code:=(Tryz.f4.body.bind (findR n)).getD .skip
noncomputable def rsB (n:Nat):Code:=(Tryz.f4.body.bind (findB n)).getD .skip
def two (who:Nat) (a b:Value):List Value:=if who=0 then [a,b] else [b,a]
structure QS (B bt bm who:Nat) (w:World) (r:Nat) (T:Tr) (q:Nat) (v:Value) (R:List RN) (r2:Nat) (U:Tr) (q2:Nat) (v2:Value) (R2:List RN) (k:Nat):Prop where
 quad:Quad B w r T q v R r2 U q2 v2 R2
 ga:Bd T k
 gb:Bd U k
 at_:w.heap[bt]? =some (.cells (two who (ptr r) (ptr r2)).toArray 63)
 am:w.heap[bm]? =some (.cells (two who (ptr q) (ptr q2)).toArray 64)
 off:∀ b,b=bt∨b=bm→B≤b∧b ∉ blkT r T∧b ∉ rblk q v R∧b ∉ blkT r2 U∧b ∉ rblk q2 v2 R2
 ne:bt≠bm
 who2:who < 2
theorem Bd.up {T:Tr} {k:Nat} (g:Bd T k):Bd T (k+1):=
 ⟨⟨⟨g.b.good.deep,g.b.good.names,g.b.good.att,g.b.good.data,g.b.good.ino,g.b.good.inos,g.b.good.tick,g.b.good.clock,by have:=g.b.good.most;omega,by have:=g.b.good.len;omega⟩,by have:=g.b.reads;omega⟩,by have:=g.clk;omega⟩
theorem two_swap (who:Nat) (h:who < 2) (a b:Value):two (1 - who) b a=two who a b:=by
 match who,h with
 |0,_=>rfl
 |1,_=>rfl
section
variable {B bt bm who r r2 q q2 k:Nat} {w w':World} {T T' U:Tr} {v v' v2:Value} {R R' R2:List RN}
theorem QS.swap (h:QS B bt bm who w r T q v R r2 U q2 v2 R2 k):QS B bt bm (1 - who) w r2 U q2 v2 R2 r T q v R k:=
 ⟨h.quad.symm,h.gb,h.ga,by rw[two_swap _ h.who2];exact h.at_,by rw[two_swap _ h.who2];exact h.am,fun b hb=>by obtain⟨h0,h1,h2,h3,h4⟩:=h.off b hb;exact⟨h0,h3,h4,h1,h2⟩,h.ne,by have:=h.who2;omega⟩
theorem QS.below (h:QS B bt bm who w r T q v R r2 U q2 v2 R2 k) (hb:Below w.heap.size w w'):QS B bt bm who w' r T q v R r2 U q2 v2 R2 k:=
 ⟨h.quad.below hb,h.ga,h.gb,(hb.block _ (lt_of_heap h.at_)).trans h.at_,(hb.block _ (lt_of_heap h.am)).trans h.am,h.off,h.ne,h.who2⟩
theorem QS.up (h:QS B bt bm who w r T q v R r2 U q2 v2 R2 k):QS B bt bm who w r T q v R r2 U q2 v2 R2 (k+1):=⟨h.quad,h.ga.up,h.gb.up,h.at_,h.am,h.off,h.ne,h.who2⟩
theorem two_here (a b:Value) (h:who < 2):(two who a b)[who]? =some a:=by
 match who,h with
 |0,_=>rfl
 |1,_=>rfl
theorem QS.here (h:QS B bt bm who w r T q v R r2 U q2 v2 R2 k):w.cell? ⟨bt,who,none⟩=some (ptr r)∧w.cell? ⟨bm,who,none⟩=some (ptr q):=
 ⟨by rw[cell_of_heap h.at_,List.getElem?_toArray];exact two_here _ _ h.who2,by rw[cell_of_heap h.am,List.getElem?_toArray];exact two_here _ _ h.who2⟩
theorem QS.dbl (h:QS B bt bm who w r T q v R r2 U q2 v2 R2 k) (d:Dbl B w r T q v R w' T' v' R' T'.bare) (g:Bd T' (k+1)):QS B bt bm who w' r T' q v' R' r2 U q2 v2 R2 (k+1):=by
 have hlt:∀ b,b=bt∨b=bm→b < w.heap.size:=fun b hb=>by rcases hb with rfl|rfl;exact lt_of_heap h.at_;exact lt_of_heap h.am
 have hnot:∀ b,b=bt∨b=bm→b ∉ blkT r T++(q::ob v):=fun b hb hc=>by
  obtain⟨_,h1,h2,_,_⟩:=h.off b hb
  rcases List.mem_append.1 hc with hc|hc
  · exact h1 hc
  · exact h2 (rsub b hc)
 refine⟨h.quad.dbl d,g,h.gb.up,(d.turn.block _ (hlt _ (.inl rfl)) (hnot _ (.inl rfl))).trans h.at_,(d.turn.block _ (hlt _ (.inr rfl)) (hnot _ (.inr rfl))).trans h.am,fun b hb=>?_,h.ne,h.who2⟩
 obtain⟨h0,h1,h2,h3,h4⟩:=h.off b hb
 refine⟨h0,fun hc=>?_,fun hc=>?_,h3,h4⟩
 · rcases d.blk b hc with h5|h5
   · exact h1 h5
   · have:=hlt b hb;omega
 · rcases d.rb b hc with h5|h5
   · exact h2 h5
   · have:=hlt b hb;omega
theorem QS.turn (h:QS B bt bm who w r T q v R r2 U q2 v2 R2 k) (d:Dbl B w r T q v R w' T' v' R' T'.bare):Below B w w':=
 d.turn.below (fun x hx=>by
  rcases List.mem_append.1 hx with hx|hx
  · exact h.quad.a.t.base x hx
  · rcases List.mem_cons.1 hx with rfl|hx
    · exact h.quad.a.f.base
    · exact rowS_ge h.quad.a.f.row x hx) h.quad.a.size
theorem Pr.off {X:List Nat} {F:Tr} (h:Pr B w r T q v R F) (ht:Turn X w w') (hX:∀ b∈X,b ∉ blkT r T∧b ∉ rblk q v R):Pr B w' r T q v R F:=
 ⟨h.t.kept ht.size (fun b hb=>ht.block b (h.t.lt b hb) (fun hc=>(hX b hc).1 hb)),h.f.kept ht.size (fun b hb=>ht.block b (h.f.lt b hb) (fun hc=>(hX b hc).2 hb)),h.ap⟩
theorem Quad.off {X:List Nat} (h:Quad B w r T q v R r2 U q2 v2 R2) (ht:Turn X w w') (hX:∀ b∈X,b ∉ blkT r T∧b ∉ rblk q v R∧b ∉ blkT r2 U∧b ∉ rblk q2 v2 R2):Quad B w' r T q v R r2 U q2 v2 R2:=
 ⟨h.a.off ht (fun b hb=>⟨(hX b hb).1,(hX b hb).2.1⟩),h.b.off ht (fun b hb=>⟨(hX b hb).2.2.1,(hX b hb).2.2.2⟩),h.tt,h.tf,h.ft,h.ff,h.gg⟩
theorem Quad.twin3 {n0:Nat} {w1:World} (h1:Pr B w1 r T q v R T.bare) (hlT:∀ x∈blkT r T,x < n0) (hlR:∀ x∈rblk q v R,x < n0) (hB:B≤n0) (hs0:n0≤w1.heap.size) (ht:TreeAt n0 w1 r2 U) (hu:U.bare=T.bare) (hf:RTree B w' q2 v2 R2 T.bare) (hq:∀ b∈q2::ob v2,w1.heap.size≤b) (hs:∀ b∈robL R2,b∈robL R∨w1.heap.size≤b) (b2:Below w1.heap.size w1 w'):
 Quad B w' r T q v R r2 U q2 v2 R2:=by
 have l1:=ht.lt
 have g1:=ht.base
 have cs:∀ x∈rblk q2 v2 R2,w1.heap.size≤x∨x∈robL R:=fun x hx=>by
  rw[rblk,List.mem_cons,List.mem_append] at hx
  rcases hx with rfl|hx|hx
  · exact .inl (hq _ (List.mem_cons_self ..))
  · exact .inl (hq x (List.mem_cons_of_mem _ hx))
  · exact(hs x hx).symm
 have inR:∀ x∈robL R,x∈rblk q v R:=fun x hx=>by
  rw[rblk,List.mem_cons,List.mem_append];exact .inr (.inr hx)
 refine⟨h1.below b2,⟨(ht.mono hB).below b2,by rw[hu];exact hf,fun x hx hy=>?_⟩,fun x hx hy=>?_,fun x hx hy=>?_,fun x hx hy=>?_,fun x hx hy=>?_,fun x hx hy=>?_⟩
 · have h3:=l1 x hx;have h2:=g1 x hx
   rcases cs x hy with h3|h3
   · omega
   · have:=hlR x (inR x h3);omega
 · have h3:=hlT x hx;have h2:=g1 x hy;omega
 · have h4:=hlT x hx
   rcases cs x hy with h3|h3
   · omega
   · exact h1.ap x hx (inR x h3)
 · have h3:=g1 x hx;have h2:=hlR x hy;omega
 · have h5:=hlR x (rsub x hx)
   rcases cs x hy with h3|h3
   · omega
   · have h4:=h1.f.apart x h3
     rcases List.mem_cons.1 hx with rfl|hx
     · exact h4.2.1 rfl
     · exact h4.2.2 hx
 · have h3:=hq x hx;have h2:=hlR x hy;omega
theorem QS.twin {w1 w2 w3:World} {ta tm:Array Value} {r3 q3:Nat} {U3:Tr} {v3:Value} {R3:List RN} (h:QS B bt bm who w r T q v R r2 U q2 v2 R2 k)
 (ht:TreeAt w.heap.size w1 r3 U3) (hu:U3.bare=T.bare) (b1:Below w.heap.size w w1)
 (t1:Turn [bt] w1 w2) (hw2:w2.heap[bt]? =some (.cells ta 63)) (hta:ta=(two who (ptr r) (ptr r3)).toArray)
 (hf:RTree B w3 q3 v3 R3 T.bare) (hq:∀ b∈q3::ob v3,w2.heap.size≤b) (hs:∀ b∈robL R3,b∈robL R∨w2.heap.size≤b) (b2:Below w2.heap.size w2 w3)
 (t2:Turn [bm] w3 w') (hw':w'.heap[bm]? =some (.cells tm 64)) (htm:tm=(two who (ptr q) (ptr q3)).toArray):
 QS B bt bm who w' r T q v R r3 U3 q3 v3 R3 (k+1)∧Below B w w':=by
 have hlt:∀ b,b=bt∨b=bm→b < w.heap.size:=fun b hb=>by rcases hb with rfl|rfl;exact lt_of_heap h.at_;exact lt_of_heap h.am
 have o1:=h.off bt (.inl rfl)
 have o2:=h.off bm (.inr rfl)
 have p1:Pr B w2 r T q v R T.bare:=(h.quad.a.below b1).off t1 (fun b hb=>by rw[List.mem_singleton] at hb;subst hb;exact⟨o1.2.1,o1.2.2.1⟩)
 have ht2:TreeAt w.heap.size w2 r3 U3:=ht.kept t1.size (fun b hb=>t1.block b (ht.lt b hb) (fun hc=>by
  rw[List.mem_singleton] at hc;subst hc
  have h1:=ht.base b hb;have h2:=hlt b (.inl rfl);omega))
 have hB:=h.quad.a.size
 have hsz:w.heap.size≤w2.heap.size:=Nat.le_trans b1.size t1.size
 have q1:Quad B w3 r T q v R r3 U3 q3 v3 R3:=Quad.twin3 p1 (h.quad.a.t.lt) (h.quad.a.f.lt) hB hsz ht2 hu hf hq hs b2
 have far:∀ b,b=bt∨b=bm→b ∉ blkT r3 U3∧b ∉ rblk q3 v3 R3:=fun b hb=>by
  have h1:=hlt b hb
  refine⟨fun hc=>by have:=ht.base b hc;omega,fun hc=>?_⟩
  rw[rblk,List.mem_cons,List.mem_append] at hc
  rcases hc with hc|hc|hc
  · have:=hq b (by rw[hc];exact List.mem_cons_self ..);omega
  · have:=hq b (List.mem_cons_of_mem _ hc);omega
  · rcases hs b hc with h2|h2
    · exact(h.off b hb).2.2.1 (by rw[rblk,List.mem_cons,List.mem_append];exact .inr (.inr h2))
    · omega
 refine⟨⟨q1.off t2 (fun b hb=>?_),h.ga.up,?_,?_,?_,fun b hb=>⟨(h.off b hb).1,(h.off b hb).2.1,(h.off b hb).2.2.1,(far b hb).1,(far b hb).2⟩,h.ne,h.who2⟩,?_⟩
 · rw[List.mem_singleton] at hb;subst hb
   exact⟨o2.2.1,o2.2.2.1,(far b (.inr rfl)).1,(far b (.inr rfl)).2⟩
 · exact⟨h.ga.up.b.of_bare hu,by have h1:U3.clock=T.clock:=(show U3.bare.clock=T.bare.clock by rw[hu]);rw[h1];exact h.ga.up.clk⟩
 · rw[t2.block bt (Nat.lt_of_lt_of_le (lt_of_heap hw2) b2.size) (by rw[List.mem_singleton];exact h.ne),b2.block bt (lt_of_heap hw2),hw2,hta]
 · rw[hw',htm]
 · have s1:=b1.mono hB
   have s2:=t1.below (B:=B) (fun b hb=>by rw[List.mem_singleton] at hb;subst hb;exact o1.1) (Nat.le_trans hB b1.size)
   have s3:=b2.mono (Nat.le_trans hB hsz)
   have s4:=t2.below (B:=B) (fun b hb=>by rw[List.mem_singleton] at hb;subst hb;exact o2.1) (Nat.le_trans (Nat.le_trans hB hsz) b2.size)
   exact((s1.trans s2).trans s3).trans s4
theorem QS.half {w1 w2:World} (h:QS B bt bm who w r T q v R r2 U q2 v2 R2 k) (b1:Below w.heap.size w w1) (t1:Turn [bt] w1 w2):Pr B w2 r T q v R T.bare∧w2.heap[bm]? =some (.cells (two who (ptr q) (ptr q2)).toArray 64)∧B≤w2.heap.size:=
 ⟨(h.quad.a.below b1).off t1 (fun b hb=>by rw[List.mem_singleton] at hb;rw[hb];exact⟨(h.off bt (.inl rfl)).2.1,(h.off bt (.inl rfl)).2.2.1⟩),
   by rw[t1.block bm (Nat.lt_of_lt_of_le (lt_of_heap h.am) b1.size) (by rw[List.mem_singleton];exact h.ne.symm),b1.block bm (lt_of_heap h.am),h.am],
   Nat.le_trans h.quad.a.size (Nat.le_trans b1.size t1.size)⟩
theorem Stp.Fits.far {x:Stp} (h:x.Fits w) (hub:∀ b∈xob x.A.xs x.v,b < B) (hb:Below B w w'):x.Fits w':=
 ⟨h.path,h.more,h.target,h.xs.kept hb.size (fun b hx=>hb.block b (hub b hx)),h.xl⟩
theorem qs_new {w0 w1 w2 w3 w4 w5 w6:World} {pn mm pn2 mm2:Nat} (t1:TreeAt w0.heap.size w1 r (newT pn mm)) (b1:Below w0.heap.size w0 w1) (t2:TreeAt w1.heap.size w2 r2 (newT pn2 mm2)) (b2:Below w1.heap.size w1 w2)
 (h3:w3=w2.alloc (.cells (two 0 (ptr r) (ptr r2)).toArray 63)) (f1:RTree w3.heap.size w4 q v R newF) (b4:Below w3.heap.size w3 w4) (g1:∀ b∈rblk q v R,w3.heap.size≤b) (f2:RTree w4.heap.size w5 q2 v2 R2 newF) (b5:Below w4.heap.size w4 w5) (g2:∀ b∈rblk q2 v2 R2,w4.heap.size≤b)
 (h6:w6=w5.alloc (.cells (two 0 (ptr q) (ptr q2)).toArray 64)):QS w0.heap.size w2.heap.size w5.heap.size 0 w6 r (newT pn mm) q v R r2 (newT pn2 mm2) q2 v2 R2 0∧Below w0.heap.size w0 w6:=by
 have s1:=b1.size;have s2:=b2.size;have s4:=b4.size;have s5:=b5.size
 have b3:Below w2.heap.size w2 w3:=by rw[h3];exact(Below.refl _ _).alloc (Nat.le_refl _) _
 have b6:Below w5.heap.size w5 w6:=by rw[h6];exact(Below.refl _ _).alloc (Nat.le_refl _) _
 have s3:w3.heap.size=w2.heap.size+1:=by rw[h3,one_size]
 have s6:w6.heap.size=w5.heap.size+1:=by rw[h6,one_size]
 have c56:Below w4.heap.size w4 w6:=b5.trans (b6.mono s5)
 have c46:Below w3.heap.size w3 w6:=b4.trans (c56.mono s4)
 have c36:Below w2.heap.size w2 w6:=b3.trans (c46.mono (by omega))
 have c26:Below w1.heap.size w1 w6:=b2.trans (c36.mono s2)
 have lT:=t1.lt;have lU:=t2.lt;have lR:=f1.lt;have lV:=f2.lt
 have bT:=t1.base;have bU:=t2.base
 refine⟨⟨⟨⟨t1.below c26,(f1.mono (by omega)).below c56,fun x hx hy=>?_⟩,⟨(t2.mono s1).below c36,(f2.mono (by omega)).below b6,fun x hx hy=>?_⟩,fun x hx hy=>?_,fun x hx hy=>?_,fun x hx hy=>?_,fun x hx hy=>?_,fun x hx hy=>?_⟩,⟨⟨good_new _ _,Nat.le_refl _⟩,Nat.le_refl _⟩,⟨⟨good_new _ _,Nat.le_refl _⟩,Nat.le_refl _⟩,?_,?_,fun b hb=>?_,by omega,by omega⟩,b1.trans (c26.mono s1)⟩
 · have:=lT x hx;have:=g1 x hy;omega
 · have:=lU x hx;have:=g2 x hy;omega
 · have:=lT x hx;have:=bU x hy;omega
 · have:=lT x hx;have:=g2 x hy;omega
 · have:=lU x hx;have:=g1 x hy;omega
 · have:=lR x (rsub x hx);have:=g2 x hy;omega
 · have:=g2 x (rsub x hx);have:=lR x hy;omega
 · rw[c46.block _ (by omega),h3];exact(MapKept.heap_alloc w2 _).1
 · rw[h6];exact(MapKept.heap_alloc w5 _).1
 · rcases hb with rfl|rfl
   · exact⟨by omega,fun hc=>by have:=lT _ hc;omega,fun hc=>by have:=g1 _ hc;omega,fun hc=>by have:=lU _ hc;omega,fun hc=>by have:=g2 _ hc;omega⟩
   · exact⟨by omega,fun hc=>by have:=lT _ hc;omega,fun hc=>by have:=lR _ hc;omega,fun hc=>by have:=lU _ hc;omega,fun hc=>by have:=lV _ hc;omega⟩
end
theorem rs_p16 {Q:Exit→Act→World→Prop} (u1 u2 u7 u8 u9 jl jm jn jo jp jq jr js jt ju jv jw jx jy jz jA jB jC jD jE jF jG jH jI jJ jK jL jM jN jO jP jQ jR jS jT jU jV jW jX jY jZ j0 j1 j2 j3 j4 j5 j6 j7 j8 j9 ya yb yc yd ye yf yg yh yi yj yk yl ym yn yo yp yq yr ys yt yu yv yw yx yy yz yA yB yC yD yE yF yG yH yI yJ yK yL yM yN yO yP yQ yR yS yT yU yV yW yX yY yZ y0 y1 y2 y3 y4 y5 y6 y7 y8 y9 Ja Jb Jc Jd:Value) {B bt bm who r r2 q q2 k i n c ba oa:Nat} {T U:Tr} {v v2:Value} {R R2:List RN} {x:Stp} {w:World}
 (hP:∀ c (a a':Act) w,a.defers=a'.defers→Q (.panic c) a w→Q (.panic c) a' w) (hk:k≤850) (hi:i < n) (hn:n≤9223372036854775807) (HQ:Hid (QS B bt bm who w r T q v R r2 U q2 v2 R2 k)) (HT:Hid (∀ w':World,Below B w w'→Tabs w')) (HRG:Hid (∀ w':World,Below B w w'→w'.rangeAt ba (oa+i*11) x.cells)) (HF:Hid (x.Fits w)) (HUB:Hid (∀ b∈xob x.A.xs x.v,b < B))
 (HK:∀ (ja jb jc jd je jf jg jh ji jj jk:Value) (w':World),(∃ T' v' R',QS B bt bm who w' r T' q v' R' r2 U q2 v2 R2 (k+1)∧Below B w w')→Q .normal ⟨#[.slice (some ⟨ba,oa,none⟩) n c,u1,u2,.pointer (some ⟨bt,0,none⟩),.pointer (some ⟨bm,0,none⟩),.int .i64 (i:Int),.int .i64 (who:Int),u7,u8,u9,jl,jm,jn,jo,jp,jq,jr,js,jt,ju,jv,jw,jx,jy,jz,jA,jB,jC,jD,jE,jF,jG,jH,jI,jJ,jK,jL,jM,jN,jO,jP,jQ,jR,jS,jT,jU,jV,jW,jX,jY,jZ,j0,j1,j2,j3,j4,j5,j6,j7,j8,j9,ya,ja,jb,jc,jd,je,jf,jg,jh,ji,jj,jk,.bool false,yn,yo,yp,yq,yr,ys,yt,yu,yv,yw,yx,yy,yz,yA,yB,yC,yD,yE,yF,yG,yH,yI,yJ,yK,yL,yM,yN,yO,yP,yQ,yR,yS,yT,yU,yV,yW,yX,yY,yZ,y0,y1,y2,y3,y4,y5,y6,y7,y8,y9,Ja,Jb,Jc,Jd],[]⟩ w'):
 Code.wp Tryz.prog (rsR 16) Q ⟨#[.slice (some ⟨ba,oa,none⟩) n c,u1,u2,.pointer (some ⟨bt,0,none⟩),.pointer (some ⟨bm,0,none⟩),.int .i64 (i:Int),.int .i64 (who:Int),u7,u8,u9,jl,jm,jn,jo,jp,jq,jr,js,jt,ju,jv,jw,jx,jy,jz,jA,jB,jC,jD,jE,jF,jG,jH,jI,jJ,jK,jL,jM,jN,jO,jP,jQ,jR,jS,jT,jU,jV,jW,jX,jY,jZ,j0,j1,j2,j3,j4,j5,j6,j7,j8,j9,ya,yb,yc,yd,ye,yf,yg,yh,yi,yj,yk,yl,ym,yn,yo,yp,yq,yr,ys,yt,yu,yv,yw,yx,yy,yz,yA,yB,yC,yD,yE,yF,yG,yH,yI,yJ,yK,yL,yM,yN,yO,yP,yQ,yR,yS,yT,yU,yV,yW,yX,yY,yZ,y0,y1,y2,y3,y4,y5,y6,y7,y8,y9,Ja,Jb,Jc,Jd],[]⟩ w:=by
 have HKH:=Lib.hid HK
 clear HK
 conv=>arg 2;whnf
 have hw2:=HQ.out.who2
 have h0:(0:Int)≤(i:Int):=by omega
 have hil:(i:Int) < (n:Int):=by omega
 have hw0:(0:Int)≤(who:Int):=by omega
 have hw1:(who:Int) < 2:=by omega
 have HB:Hid (B≤w.heap.size):=Lib.hid HQ.out.quad.a.size
 have HQD:=Lib.hid (HQ.out.below (Below.refl _ w).drew)
 have HBD:Hid (Below B w w.drew):=Lib.hid (Below.refl _ w).drew
 have DO:=does_any B k w.drew r q T v R x HQD.out.quad.a HQD.out.ga (by omega) (fun w' hb=>HT.out w' (HBD.out.trans hb)) (HF.out.below (Below.refl _ w).drew) HUB.out
 unfold ptr at DO
 unfold DoesP at DO
 have DO:=Lib.hid DO
 refine wp_region_held_drew (S:=(fun w':World=>w'.cell? ⟨bt,who,none⟩=some (.pointer (some ⟨r,0,none⟩))∧w'.cell? ⟨bm,who,none⟩=some (.pointer (some ⟨q,0,none⟩))∧w'.rangeAt ba (oa+i*11) x.cells)) (by kernel_rfl) ⟨(HQD.out).here.1,(HQD.out).here.2,HRG.out _ (HBD.out)⟩ (fun zh=>?_)
 iterate 9
  first|refine' tj 0 rfl rfl (pz hP) ?_ zh ?_|refine' tj 1 rfl rfl (pz hP) ?_ zh ?_|refine' tj 2 rfl rfl (pz hP) ?_ zh ?_|refine' tj 3 rfl rfl (pz hP) ?_ zh ?_|refine' tj 4 rfl rfl (pz hP) ?_ zh ?_|refine' tj 5 rfl rfl (pz hP) ?_ zh ?_|refine' tj 6 rfl rfl (pz hP) ?_ zh ?_|refine' tj 7 rfl rfl (pz hP) ?_ zh ?_|refine' tj 8 rfl rfl (pz hP) ?_ zh ?_
  rotate_left
  · intro wS hS;obtain⟨k0,k1,k2⟩:=hS;have k3:=k2 2 _ rfl;have k4:=k2 3 _ rfl;clear k2;go_simp;try rfl
  try simp only[Act.put,zA,zB,zC,zD,zE,zF]
 refine' wpAnyH_take (i:=9) (v:=_) rfl (by kernel_rfl) (by kernel_rfl) (by kernel_rfl) (pz hP) (yieldsIf_load_mid (by rfl) _ _ rfl ba (oa+i*11) rfl x.cells _ ?z169S ?z169u ?z169d ?z169i) zh ?z169x
 case z169S=>intro wS hS;exact hS.2.2
 case z169u=>exact Tryz.underlying69
 case z169d=>rfl
 case z169i=>exact (infoStp x)
 try simp only[Act.put,zA,zB,zC,zD,zE,zF]
 refine wpAnyH_ready (rs:=[10]) (by kernel_rfl) (by simp) ?_
 refine AllReadyH.cons rfl (fun K hK=>?_) AllReadyH.nil
 go_simp
 refine DO.out.mono ?_
 rintro ez w3 ⟨rfl,T2,v3,R3,hd,hg⟩
 have HQ3:=Lib.hid (HQD.out.dbl hd hg)
 have HB3:Hid (Below B w w3):=Lib.hid (HBD.out.trans (HQD.out.turn hd))
 clear hd hg
 go_wp2_with fail
 refine hK.out _ _ ⟨(HQ3.out).here.1,(HQ3.out).here.2,HRG.out _ (HB3.out)⟩ ?_
 clear hK K zh
 intro zh
 try simp only[Act.put,zA,zB,zC,zD,zE,zF]
 refine' tk 11 rfl (pz hP) ?z1611 zh ?_
 case z1611=>intro wS hS;obtain⟨k0,k1,k2⟩:=hS;have k3:=k2 2 _ rfl;have k4:=k2 3 _ rfl;clear k2;go_simp;try rfl
 try simp only[Act.put,zA,zB,zC,zD,zE,zF]
 refine wpAnyH_done (by kernel_rfl) ?_ _
 clear zh
 try simp only[Act.put,zA,zB,zC,zD,zE,zF]
 exact HKH.out _ _ _ _ _ _ _ _ _ _ _ w3 ⟨_,_,_,HQ3.out,HB3.out⟩
theorem rs_p18 {Q:Exit→Act→World→Prop} (u1 u2 u7 u8 u9 jB jC jD jE jF jG jH jI jJ jK jL jM jN jO jP jQ jR jS jT jU jV jW jX jY jZ j0 j1 j2 j3 j4 j5 j6 j7 j8 j9 ya yb yc yd ye yf yg yh yi yj yk yl ym yn yo yp yq yr ys yt yu yv yw yx yy yz yA yB yC yD yE yF yG yH yI yJ yK yL yM yN yO yP yQ yR yS yT yU yV yW yX yY yZ y0 y1 y2 y3 y4 y5 y6 y7 y8 y9 Ja Jb Jc Jd Je Jf Jg Jh Ji Jj Jk Jl Jm Jn Jo Jp Jq Jr Js Jt:Value) {B bt bm who r r2 q q2 k i n c ba oa:Nat} {T U:Tr} {v v2:Value} {R R2:List RN} {x:Stp} {w:World}
 (hP:∀ c (a a':Act) w,a.defers=a'.defers→Q (.panic c) a w→Q (.panic c) a' w) (hk:k≤850) (hi:i < n) (hn:n≤9223372036854775807) (HQ:Hid (QS B bt bm who w r T q v R r2 U q2 v2 R2 k)) (HT:Hid (∀ w':World,Below B w w'→Tabs w')) (HRG:Hid (∀ w':World,Below B w w'→w'.rangeAt ba (oa+i*11) x.cells)) (HF:Hid (x.Fits w)) (HUB:Hid (∀ b∈xob x.A.xs x.v,b < B))
 (HK:∀ (ja jb jc jd je jf jg jh ji jj jk jl jm jn jo jp jq jr js jt ju jv jw jx jy jz jA:Value) (w':World),Below w.heap.size w w'→Q .normal ⟨#[.slice (some ⟨ba,oa,none⟩) n c,u1,u2,.pointer (some ⟨bt,0,none⟩),.pointer (some ⟨bm,0,none⟩),.int .i64 (i:Int),.int .i64 (who:Int),u7,u8,u9,jB,jC,jD,jE,jF,jG,jH,jI,jJ,jK,jL,jM,jN,jO,jP,jQ,jR,jS,jT,jU,jV,jW,jX,jY,jZ,j0,j1,j2,j3,j4,j5,j6,j7,j8,j9,ya,yb,yc,yd,ye,yf,yg,yh,yi,yj,yk,yl,ym,yn,yo,yp,yq,yr,ys,yt,yu,yv,yw,yx,yy,yz,yA,yB,yC,ja,jb,jc,jd,je,jf,jg,jh,ji,jj,jk,jl,jm,jn,jo,jp,jq,jr,js,jt,ju,jv,jw,jx,jy,jz,jA,.bool false,y5,y6,y7,y8,y9,Ja,Jb,Jc,Jd,Je,Jf,Jg,Jh,Ji,Jj,Jk,Jl,Jm,Jn,Jo,Jp,Jq,Jr,Js,Jt],[]⟩ w'):
 Code.wp Tryz.prog (rsR 18) Q ⟨#[.slice (some ⟨ba,oa,none⟩) n c,u1,u2,.pointer (some ⟨bt,0,none⟩),.pointer (some ⟨bm,0,none⟩),.int .i64 (i:Int),.int .i64 (who:Int),u7,u8,u9,jB,jC,jD,jE,jF,jG,jH,jI,jJ,jK,jL,jM,jN,jO,jP,jQ,jR,jS,jT,jU,jV,jW,jX,jY,jZ,j0,j1,j2,j3,j4,j5,j6,j7,j8,j9,ya,yb,yc,yd,ye,yf,yg,yh,yi,yj,yk,yl,ym,yn,yo,yp,yq,yr,ys,yt,yu,yv,yw,yx,yy,yz,yA,yB,yC,yD,yE,yF,yG,yH,yI,yJ,yK,yL,yM,yN,yO,yP,yQ,yR,yS,yT,yU,yV,yW,yX,yY,yZ,y0,y1,y2,y3,y4,y5,y6,y7,y8,y9,Ja,Jb,Jc,Jd,Je,Jf,Jg,Jh,Ji,Jj,Jk,Jl,Jm,Jn,Jo,Jp,Jq,Jr,Js,Jt],[]⟩ w:=by
 have HKH:=Lib.hid HK
 clear HK
 conv=>arg 2;whnf
 have hw2:=HQ.out.who2
 have h0:(0:Int)≤(i:Int):=by omega
 have hil:(i:Int) < (n:Int):=by omega
 have hw0:(0:Int)≤(who:Int):=by omega
 have hw1:(who:Int) < 2:=by omega
 have HB:Hid (B≤w.heap.size):=Lib.hid HQ.out.quad.a.size
 have HQD:=Lib.hid (HQ.out.below (Below.refl _ w).drew)
 have HBD:Hid (Below w.heap.size w w.drew):=Lib.hid (Below.refl _ w).drew
 have KA:Hid (∀ (w':World) (p:List UInt8),Below w.heap.size w w'→p.length≤140737488351232→Calls Tryz.prog 21 #[.pointer (some ⟨r,0,none⟩),.pointer (some ⟨q,0,none⟩),.string ⟨p.toArray⟩] w' fun e w2=>e= .returned (.bool true)∧Below w'.heap.size w' w2):=Lib.hid (fun w' p hb hp=>asked_any B k w' r q T v R p (HQ.out.below hb).quad.a HQ.out.ga (by omega) (fun w2 hb2=>HT.out w2 ((hb.mono HB.out).trans hb2)) hp)
 refine wp_region_held_drew (S:=(fun w':World=>w'.cell? ⟨bt,who,none⟩=some (.pointer (some ⟨r,0,none⟩))∧w'.cell? ⟨bm,who,none⟩=some (.pointer (some ⟨q,0,none⟩))∧w'.rangeAt ba (oa+i*11) x.cells)) (by kernel_rfl) ⟨(HQD.out).here.1,(HQD.out).here.2,HRG.out _ (HBD.out.mono HB.out)⟩ (fun zh=>?_)
 iterate 11
  first|refine' tj 0 rfl rfl (pz hP) ?_ zh ?_|refine' tj 1 rfl rfl (pz hP) ?_ zh ?_|refine' tj 2 rfl rfl (pz hP) ?_ zh ?_|refine' tj 3 rfl rfl (pz hP) ?_ zh ?_|refine' tj 4 rfl rfl (pz hP) ?_ zh ?_|refine' tj 5 rfl rfl (pz hP) ?_ zh ?_|refine' tj 6 rfl rfl (pz hP) ?_ zh ?_|refine' tj 7 rfl rfl (pz hP) ?_ zh ?_|refine' tj 8 rfl rfl (pz hP) ?_ zh ?_|refine' tj 9 rfl rfl (pz hP) ?_ zh ?_|refine' tj 10 rfl rfl (pz hP) ?_ zh ?_
  rotate_left
  · intro wS hS;obtain⟨k0,k1,k2⟩:=hS;have k3:=k2 2 _ rfl;have k4:=k2 3 _ rfl;clear k2;go_simp;try rfl
  try simp only[Act.put,zA,zB,zC,zD,zE,zF]
 refine wpAnyH_ready (rs:=[11]) (by kernel_rfl) (by simp) ?_
 refine AllReadyH.cons rfl (fun K hK=>?_) AllReadyH.nil
 go_simp
 refine(KA.out _ x.path HBD.out HF.out.path).mono ?_
 rintro ez w3 ⟨rfl,hb3⟩
 have HB3:Hid (Below w.heap.size w w3):=Lib.hid (HBD.out.trans (hb3.mono HBD.out.size))
 clear hb3
 go_wp2_with fail
 refine hK.out _ _ ⟨(HQ.out.below HB3.out).here.1,(HQ.out.below HB3.out).here.2,HRG.out _ (HB3.out.mono HB.out)⟩ ?_
 clear hK K zh
 intro zh
 try simp only[Act.put,zA,zB,zC,zD,zE,zF]
 iterate 10
  first|refine' tj 12 rfl rfl (pz hP) ?_ zh ?_|refine' tj 13 rfl rfl (pz hP) ?_ zh ?_|refine' tj 14 rfl rfl (pz hP) ?_ zh ?_|refine' tj 15 rfl rfl (pz hP) ?_ zh ?_|refine' tj 16 rfl rfl (pz hP) ?_ zh ?_|refine' tj 17 rfl rfl (pz hP) ?_ zh ?_|refine' tj 18 rfl rfl (pz hP) ?_ zh ?_|refine' tj 19 rfl rfl (pz hP) ?_ zh ?_|refine' tj 20 rfl rfl (pz hP) ?_ zh ?_|refine' tj 21 rfl rfl (pz hP) ?_ zh ?_
  rotate_left
  · intro wS hS;obtain⟨k0,k1,k2⟩:=hS;have k3:=k2 2 _ rfl;have k4:=k2 3 _ rfl;clear k2;go_simp;try rfl
  try simp only[Act.put,zA,zB,zC,zD,zE,zF]
 iterate 3
  first|refine' tj 22 rfl rfl (pz hP) ?_ zh ?_|refine' tj 23 rfl rfl (pz hP) ?_ zh ?_|refine' tj 24 rfl rfl (pz hP) ?_ zh ?_
  rotate_left
  · intro wS hS;obtain⟨k0,k1,k2⟩:=hS;have k3:=k2 2 _ rfl;have k4:=k2 3 _ rfl;clear k2;go_simp;try rfl
  try simp only[Act.put,zA,zB,zC,zD,zE,zF]
 refine wpAnyH_ready (rs:=[25]) (by kernel_rfl) (by simp) ?_
 refine AllReadyH.cons rfl (fun K hK=>?_) AllReadyH.nil
 go_simp
 refine(KA.out _ x.more HB3.out HF.out.more).mono ?_
 rintro ez w4 ⟨rfl,hb4⟩
 have HB4:Hid (Below w.heap.size w w4):=Lib.hid (HB3.out.trans (hb4.mono HB3.out.size))
 clear hb4
 go_wp2_with fail
 refine hK.out _ _ ⟨(HQ.out.below HB4.out).here.1,(HQ.out.below HB4.out).here.2,HRG.out _ (HB4.out.mono HB.out)⟩ ?_
 clear hK K zh
 intro zh
 try simp only[Act.put,zA,zB,zC,zD,zE,zF]
 iterate 2
  first|refine' tj 26 rfl rfl (pz hP) ?_ zh ?_|refine' tj 27 rfl rfl (pz hP) ?_ zh ?_
  rotate_left
  · intro wS hS;obtain⟨k0,k1,k2⟩:=hS;have k3:=k2 2 _ rfl;have k4:=k2 3 _ rfl;clear k2;go_simp;try rfl
  try simp only[Act.put,zA,zB,zC,zD,zE,zF]
 refine wpAnyH_done (by kernel_rfl) ?_ _
 clear zh
 try simp only[Act.put,zA,zB,zC,zD,zE,zF]
 exact HKH.out _ _ _ _ _ _ _ _ _ _ _ _ _ _ _ _ _ _ _ _ _ _ _ _ _ _ _ w4 HB4.out
end Go.Proofs.YtnmejonfdfdegaaGreatDoor.Sr
