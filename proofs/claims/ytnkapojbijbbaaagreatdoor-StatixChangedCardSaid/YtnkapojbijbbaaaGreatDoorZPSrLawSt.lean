import Derived.Test.YtnkapojbijbbaaaGreatDoorZPStIn
import Derived.Test.YtnkapojbijbbaaaGreatDoorZPSrHapp
import Derived.Test.YtnkapojbijbbaaaGreatDoorZPStSet
import Derived.Test.YtnkapojbijbbaaaGreatDoorZPStEncode
import Derived.Test.YtnkapojbijbbaaaGreatDoorZPRtFollows
import Derived.Test.YtnkapojbijbbaaaGreatDoorZPRtChanged
import Derived.Test.YtnkapojbijbbaaaGreatDoorZPSrTwPlain
import Derived.Test.YtnkapojbijbbaaaGreatDoorZPStRefSet
import Derived.Test.YtnkapojbijbbaaaGreatDoorZPSrPieces
import Derived.Test.YtnkapojbijbbaaaGreatDoorZPStId
set_option linter.unusedSimpArgs false
set_option linter.unusedVariables false
set_option maxHeartbeats 40000000
set_option maxRecDepth 100000
namespace Go.Proofs.YtnkapojbijbbaaaGreatDoor.Sr
open Go.RowKit Go.Maps Go.WideMaps Rf Go.Proofs.YtnkapojbijbbaaaGreatDoor.Nm St
def strD (l : List UInt8) : Value := .string ⟨l.toArray⟩
def nodK (x : Nat × Int) : Value := .agg (.string ⟨#[]⟩ :: (zeroA.cells (.slice none 0 0) ++ [.string ⟨#[]⟩, .int .u64 (x.1 : Int), .int .i64 x.2])).toArray
structure LawSt (B : Nat) (w : World) (r : Nat) (T : Tr) (g b : Nat) (X : List SE) (db : Nat) (D : MV (List UInt8)) (kb : Nat) (K : MV (Nat × Int)) : Prop where
 tree : TreeAt B w r T
 idx : IndexAt B w g b X
 dat : w.ownsMap Tryz.prog 9 Rv db 1000000 (toD strD D)
 kep : w.ownsMap Tryz.prog 9 Rv kb 1000000 (toD nodK K)
 off : ∀ x ∈ r :: (ownL T.L ++ xobL T.L), x ≠ g ∧ x ≠ b ∧ x ≠ db ∧ x ≠ kb
 ne : g ≠ db ∧ g ≠ kb ∧ b ≠ db ∧ b ≠ kb ∧ db ≠ kb
 base : B ≤ db ∧ B ≤ kb
section
variable {B : Nat} {w w' : World} {r : Nat} {T : Tr} {g b : Nat} {X : List SE} {db : Nat} {D : MV (List UInt8)} {kb : Nat} {K : MV (Nat × Int)}
theorem LawSt.size (h : LawSt B w r T g b X db D kb K) : B ≤ w.heap.size := Nat.le_trans h.idx.baseg (Nat.le_of_lt h.idx.lt_g)
theorem LawSt.below (h : LawSt B w r T g b X db D kb K) (hb : Below w.heap.size w w') : LawSt B w' r T g b X db D kb K :=
 ⟨h.tree.below hb, h.idx.below hb, ownsMap_block h.dat (hb.block _ h.dat.lt), ownsMap_block h.kep (hb.block _ h.kep.lt), h.off, h.ne, h.base⟩
theorem LawSt.set (h : LawSt B w r T g b X db D kb K) {X' : List SE} (hi : IndexAt B w' g b X') (hu : Turn [b] w w') : LawSt B w' r T g b X' db D kb K :=
 ⟨h.tree.turn hu (fun x hx hb => (h.off x hx).2.1 (by simpa using hb)), hi, ownsMap_block h.dat (hu.block _ h.dat.lt (by have := h.ne.2.2.1; simp; exact Ne.symm this)), ownsMap_block h.kep (hu.block _ h.kep.lt (by have := h.ne.2.2.2.1; simp; exact Ne.symm this)), h.off, h.ne, h.base⟩
end
end Go.Proofs.YtnkapojbijbbaaaGreatDoor.Sr
namespace Go.Proofs.YtnkapojbijbbaaaGreatDoor.Sr
open Go.RowKit Go.Maps Go.WideMaps Rf Go.Proofs.YtnkapojbijbbaaaGreatDoor.Nm St
theorem oneV (l : List Value) (h : ∀ v ∈ l, v.oneCell' = true) : l.toArray.all (·.oneCell') = true := Array.all_eq_true_iff_forall_mem.2 (fun v hv => h v (by simpa using hv))
end Go.Proofs.YtnkapojbijbbaaaGreatDoor.Sr
namespace Go.Proofs.YtnkapojbijbbaaaGreatDoor.Sr
open Go.RowKit Go.Maps Go.WideMaps Rf Go.Proofs.YtnkapojbijbbaaaGreatDoor.Nm St
structure Chg where
 kind : Int
 path : List UInt8
 more : List UInt8
 tick : Nat
instance : Inhabited Chg := ⟨⟨0, [], [], 0⟩⟩
structure Chg.Fits (x : Chg) : Prop where
 path : x.path.length ≤ 140737488351232
 more : x.more.length ≤ 140737488351232
 tick : x.tick < 4294967296
def Chg.cells (x : Chg) : List Value := [.int .i64 x.kind, .string ⟨x.path.toArray⟩, .string ⟨x.more.toArray⟩, .int .u32 (x.tick : Int)]
def ChgsAt (w : World) (v : Value) (l : List Chg) : Prop :=
 ∃ a cap, v = .slice a l.length cap ∧ l.length ≤ maxLen ∧ (l ≠ [] → ∃ b o, a = some ⟨b, o, none⟩ ∧ b < w.heap.size ∧ ∀ (i : Nat) x, l[i]? = some x → w.rangeAt b (o + i * 4) x.cells) ∧ ∀ x ∈ l, x.Fits
theorem infoChg (x : Chg) : (Tryz.prog.info? 36).map (·.size) = some x.cells.length := by show _ = some 4; kernel_rfl
end Go.Proofs.YtnkapojbijbbaaaGreatDoor.Sr
namespace Go.Proofs.YtnkapojbijbbaaaGreatDoor.Sr
open Go.RowKit Go.Maps Go.WideMaps Rf Go.Proofs.YtnkapojbijbbaaaGreatDoor.Nm St
structure ChSt (B : Nat) (w : World) (r : Nat) (T : Tr) (g b : Nat) (X : List SE) (q : Nat) (qv : Value) (R : List RN) (F : Tr) (j : Nat) (jv : Value) (Y : List SE) : Prop where
 tree : TreeAt B w r T
 idx : IndexAt B w g b X
 rt : RTree B w q qv R F
 rix : RefAt B w j jv Y
 tr : ∀ x ∈ blkT r T, x ∉ rblk q qv R
 ti : ∀ x ∈ blkT r T, x ≠ g ∧ x ≠ b ∧ x ≠ j ∧ x ∉ ob jv
 ri : ∀ x ∈ rblk q qv R, x ≠ g ∧ x ≠ b ∧ x ≠ j ∧ x ∉ ob jv
 ii : g ≠ j ∧ b ≠ j ∧ g ∉ ob jv ∧ b ∉ ob jv
section
variable {B : Nat} {w w' : World} {r : Nat} {T T' : Tr} {g b : Nat} {X X' : List SE} {q : Nat} {qv qv' : Value} {R R' : List RN} {F F' : Tr} {j : Nat} {jv jv' : Value} {Y Y' : List SE}
theorem ChSt.size (h : ChSt B w r T g b X q qv R F j jv Y) : B ≤ w.heap.size := Nat.le_trans h.idx.baseg (Nat.le_of_lt h.idx.lt_g)
theorem ChSt.below (h : ChSt B w r T g b X q qv R F j jv Y) (hb : Below w.heap.size w w') : ChSt B w' r T g b X q qv R F j jv Y :=
 ⟨h.tree.below hb, h.idx.below hb, h.rt.below hb, h.rix.below hb, h.tr, h.ti, h.ri, h.ii⟩
theorem ChSt.eff (h : ChSt B w r T g b X q qv R F j jv Y) (e : Eff B w r T w' T') : ChSt B w' r T' g b X q qv R F j jv Y := by
 have hg := h.idx.lt_g; have hb := h.idx.lt_b; have hj := h.rix.lt
 refine ⟨e.tree, h.idx.kept (e.off hg (fun hc => (h.ti _ hc).1 rfl)) (e.off hb (fun hc => (h.ti _ hc).2.1 rfl)), h.rt.kept e.turn.size (fun x hx => e.off (h.rt.lt x hx) (fun hc => h.tr _ hc hx)), h.rix.kept (e.off hj (fun hc => (h.ti _ hc).2.2.1 rfl)) (fun x hx => e.off (rowS_lt h.rix.row x hx) (fun hc => (h.ti _ hc).2.2.2 hx)), fun x hx hy => ?_, fun x hx => ?_, h.ri, h.ii⟩
 · rcases e.blk x hx with h1 | h1
   · exact h.tr x h1 hy
   · have := h.rt.lt x hy; omega
 · rcases e.blk x hx with h1 | h1
   · exact h.ti x h1
   · exact ⟨by omega, by omega, by omega, fun hc => by have := rowS_lt h.rix.row x hc; omega⟩
theorem ChSt.follow (h : ChSt B w r T g b X q qv R F j jv Y) (ht : RTree B w' q qv' R' F') (hu : Turn (q :: ob qv) w w') (ho : ∀ y ∈ rblk q qv' R', y ∈ rblk q qv R ∨ w.heap.size ≤ y) : ChSt B w' r T g b X q qv' R' F' j jv Y := by
 have hg := h.idx.lt_g; have hb := h.idx.lt_b; have hj := h.rix.lt
 have hsub : ∀ y ∈ q :: ob qv, y ∈ rblk q qv R := fun y hy => by
  rw [rblk, List.mem_cons, List.mem_append]
  rcases List.mem_cons.1 hy with hy | hy
  · exact .inl hy
  · exact .inr (.inl hy)
 have off : ∀ {x : Nat}, x < w.heap.size → x ∉ rblk q qv R → w'.heap[x]? = w.heap[x]? := fun hl hx => hu.block _ hl (fun hc => hx (hsub _ hc))
 refine ⟨h.tree.kept hu.size (fun x hx => off (h.tree.lt x hx) (h.tr x hx)), h.idx.kept (off hg (fun hc => (h.ri _ hc).1 rfl)) (off hb (fun hc => (h.ri _ hc).2.1 rfl)), ht, h.rix.kept (off hj (fun hc => (h.ri _ hc).2.2.1 rfl)) (fun x hx => off (rowS_lt h.rix.row x hx) (fun hc => (h.ri _ hc).2.2.2 hx)), fun x hx hy => ?_, h.ti, fun x hx => ?_, h.ii⟩
 · rcases ho x hy with h1 | h1
   · exact h.tr x hx h1
   · have := h.tree.lt x hx; omega
 · rcases ho x hx with h1 | h1
   · exact h.ri x h1
   · exact ⟨by omega, by omega, by omega, fun hc => by have := rowS_lt h.rix.row x hc; omega⟩
theorem ChSt.set (h : ChSt B w r T g b X q qv R F j jv Y) (hi : IndexAt B w' g b X') (hu : Turn [b] w w') : ChSt B w' r T g b X' q qv R F j jv Y := by
 have off : ∀ {x : Nat}, x < w.heap.size → x ≠ b → w'.heap[x]? = w.heap[x]? := fun hl hx => hu.block _ hl (by simpa using hx)
 exact ⟨h.tree.kept hu.size (fun x hx => off (h.tree.lt x hx) (h.ti x hx).2.1), hi, h.rt.kept hu.size (fun x hx => off (h.rt.lt x hx) (h.ri x hx).2.1), h.rix.kept (off h.rix.lt (Ne.symm h.ii.2.1)) (fun x hx => off (rowS_lt h.rix.row x hx) (fun hc => h.ii.2.2.2 (hc ▸ hx))), h.tr, h.ti, h.ri, h.ii⟩
theorem ChSt.rset (h : ChSt B w r T g b X q qv R F j jv Y) (hi : RefAt B w' j jv' Y') (hu : Turn (j :: ob jv) w w') (ho : ∀ x ∈ ob jv', x ∈ ob jv ∨ w.heap.size ≤ x) : ChSt B w' r T g b X q qv R F j jv' Y' := by
 have hg := h.idx.lt_g; have hb := h.idx.lt_b
 have off : ∀ {x : Nat}, x < w.heap.size → x ≠ j → x ∉ ob jv → w'.heap[x]? = w.heap[x]? := fun hl hx hy => hu.block _ hl (by
  intro hc
  rcases List.mem_cons.1 hc with hc | hc
  · exact hx hc
  · exact hy hc)
 refine ⟨h.tree.kept hu.size (fun x hx => off (h.tree.lt x hx) (h.ti x hx).2.2.1 (h.ti x hx).2.2.2), h.idx.kept (off hg h.ii.1 h.ii.2.2.1) (off hb h.ii.2.1 h.ii.2.2.2), h.rt.kept hu.size (fun x hx => off (h.rt.lt x hx) (h.ri x hx).2.2.1 (h.ri x hx).2.2.2), hi, h.tr, fun x hx => ?_, fun x hx => ?_, h.ii.1, h.ii.2.1, fun hc => ?_, fun hc => ?_⟩
 · have h1 := h.ti x hx
   exact ⟨h1.1, h1.2.1, h1.2.2.1, fun hc => (ho x hc).elim h1.2.2.2 (fun hn => by have := h.tree.lt x hx; omega)⟩
 · have h1 := h.ri x hx
   exact ⟨h1.1, h1.2.1, h1.2.2.1, fun hc => (ho x hc).elim h1.2.2.2 (fun hn => by have := h.rt.lt x hx; omega)⟩
 · exact (ho g hc).elim h.ii.2.2.1 (fun hn => by omega)
 · exact (ho b hc).elim h.ii.2.2.2 (fun hn => by omega)
theorem ChSt.lowE (h : ChSt B w r T g b X q qv R F j jv Y) (e : Eff B w r T w' T') : Below B w w' := e.below h.tree h.size
theorem ChSt.lowF (h : ChSt B w r T g b X q qv R F j jv Y) (hu : Turn (q :: ob qv) w w') : Below B w w' :=
 hu.below (fun y hy => by
  rcases List.mem_cons.1 hy with rfl | hy
  · exact h.rt.base
  · exact rowS_ge h.rt.row y hy) h.size
theorem ChSt.lowB (h : ChSt B w r T g b X q qv R F j jv Y) (hu : Turn [b] w w') : Below B w w' :=
 hu.below (fun y hy => by rw [List.mem_singleton] at hy; rw [hy]; exact h.idx.baseb) h.size
theorem ChSt.lowJ (h : ChSt B w r T g b X q qv R F j jv Y) (hu : Turn (j :: ob jv) w w') : Below B w w' :=
 hu.below (fun y hy => by
  rcases List.mem_cons.1 hy with rfl | hy
  · exact h.rix.base
  · exact rowS_ge h.rix.row y hy) h.size
end
theorem findN_bare (p : List UInt8) (L : List TE) : findN p (L.map bare) = (findN p L).map bare := by
 rw [findN, findN]; split
 · exact getT_bare _ _
 · rfl
theorem findE_bare (p : List UInt8) (L : List TE) : findE p (L.map bare) = findE p L := by
 rw [findE, findE, getT_bare, Option.isSome_map]
theorem statN_bare (p : List UInt8) (L : List TE) : statN p (L.map bare) = statN p L := by
 rw [statN, statN, findN_bare]
 cases findN p L with
 | none => rfl
 | some e =>
   show statT (bare e) (L.map bare) = statT e L
   have : sizeT (bare e) (L.map bare) = sizeT e L := by
    rw [sizeT, sizeT]
    show (if e.at_.node = 1 then (e.data.length : Int) else if e.at_.node = 2 then ((kidsT (L.map bare) e.nm).length : Int) else if e.at_.node = 3 then (e.at_.target.length : Int) else 0) = _
    rw [kids_bare]
   rw [statT, statT, this]; rfl
theorem chgL_bare (X : List SE) (L : List TE) : chgL X (L.map bare) = chgL X L := by
 rw [chgL, chgL, List.filter_map, List.map_map]; rfl
def entM (p m : List UInt8) (L : List TE) : SE := { statN p L with path := p, kind := 1, id := idOf m }
theorem stat_fits {k : Nat} {T : Tr} (G : Good k T) (hk : k ≤ 1000) (p : List UInt8) : (statN p T.L).node < 256 ∧ (-9223372036854775808 ≤ (statN p T.L).size ∧ (statN p T.L).size < 9223372036854775808) ∧ (statN p T.L).ino < 18446744073709551616 ∧ (-9223372036854775808 ≤ (statN p T.L).tick ∧ (statN p T.L).tick < 9223372036854775808) := by
 rw [statN]
 cases hf : findN p T.L with
 | none => exact ⟨zero_fits.node, zero_fits.size, zero_fits.ino, zero_fits.tick⟩
 | some n =>
   have hn : n ∈ T.L := by
    rw [findN] at hf
    split at hf
    · exact (getT_nm hf).1
    · cases hf
   have h1 := chkA_parts (G.att n hn); have h2 := G.data n hn; have h3 := G.ino n hn; have h4 := G.tick n hn; have h5 := G.clock; have h6 := G.most; have h7 := G.len; have h8 := kids_le T.L n.nm
   refine ⟨by show n.at_.node < 256; omega, ?_, by show n.ino < _; omega, by show -9223372036854775808 ≤ n.tick ∧ n.tick < _; omega⟩
   show -9223372036854775808 ≤ sizeT n T.L ∧ sizeT n T.L < _
   rw [sizeT]
   split
   · omega
   · split
     · omega
     · split
       · omega
       · omega
theorem entM_fits {k : Nat} {T : Tr} (G : Good k T) (hk : k ≤ 1000) {p m : List UInt8} (hp : p.length ≤ 140737488351232) (hi : (idOf m).length = 32) : (entM p m T.L).Fits := by
 have hs := stat_fits G hk p
 exact ⟨by show p.length ≤ _; omega, hs.1, hs.2.1, hs.2.2.1, hs.2.2.2, by show (1 : Nat) < 256; decide, hi⟩
end Go.Proofs.YtnkapojbijbbaaaGreatDoor.Sr
namespace Go.Proofs.YtnkapojbijbbaaaGreatDoor.Sr
open Go.RowKit Go.Maps Go.WideMaps Rf Go.Proofs.YtnkapojbijbbaaaGreatDoor.Nm St
noncomputable def chR (n : Nat) : Code := (Tryz.f3.body.bind (findR n)).getD .skip
noncomputable def chB (n : Nat) : Code := (Tryz.f3.body.bind (findB n)).getD .skip
section
variable {B : Nat} {w w' : World} {r : Nat} {T T' : Tr} {g b : Nat} {X X' : List SE} {q : Nat} {qv qv' : Value} {R R' : List RN} {F F' : Tr} {j : Nat} {jv jv' : Value} {Y Y' : List SE} {k : Nat}
theorem ChSt.hap {x : Stp} {e : Ending} (h : ChSt B w r T g b X q qv R T.bare j jv X) (G : Good k T) (hc : T.clock ≤ k) (hp : HapIs B w r T x e w') :
 e = .returned (.bool true) ∧ ∃ T', ChSt B w' r T' g b X q qv R T.bare j jv X ∧ Good (k + 1) T' ∧ T'.clock ≤ k + 1 ∧ T'.bare = runN x T.bare ∧ Below B w w' := by
 obtain ⟨he, T', hct, hri⟩ := hp
 have hF := hri.facts h.tree
 refine ⟨he, T', h.eff hct.eff, hct.ch.good h.tree G, ?_, bare_run hri h.tree hct.tree, h.lowE hct.eff⟩
 cases hx : chgd x T with
 | true => rw [hF.yes hx]; omega
 | false => rw [(hF.no hx).2]; omega
end
theorem hap_srt {B : Nat} {w : World} {r : Nat} {T T' : Tr} {k t : Nat} {kd : Int} {p m : List UInt8} (h : TreeAt B w r T') (g : Good k T') (hb : T'.bare = runN (hapX kd p m t) T.bare) : kd = 3 → moveE p m T.bare = 0 → SrtT (moveN p m T.bare).L := by
 rintro rfl h0
 have h1 := (goodF_of h g).srt
 have h2 : runN (hapX 3 p m t) T.bare = moveN p m T.bare := by
  show (if moveE p m T.bare ≠ 0 then T.bare else moveN p m T.bare) = _
  rw [if_neg (fun h => h h0)]
 rw [hb, h2] at h1; exact h1
end Go.Proofs.YtnkapojbijbbaaaGreatDoor.Sr
namespace Go.Proofs.YtnkapojbijbbaaaGreatDoor.Sr
open Go.RowKit Go.Maps Go.WideMaps Rf Go.Proofs.YtnkapojbijbbaaaGreatDoor.Nm St
theorem ch_p8 {Q : Exit → Act → World → Prop} (u1 u2 u5 u6 u8 u9 u10 u11 u12 u13 u14 u15 u16 u17 u18 u19 u20 u21 u22 u23 u24 u25 u26 u27 u28 u29 u30 u31 u32 u33 u34 u35 u36 u37 u38 u39 u40 u41 u42 u43 u44 u45 u46 u47 u48 u49 u50 u51 u52 u53 u54 u55 u56 u57 u58 u59 u60 u61 u62 u63 u64 u65 u66 u67 u68 u69 u70 u71 u72 u73 u74 u75 u76 u77 u78 u79 u80 u81 u82 u83 u84 u85 u86 u87 u88 u89 u90 u91 u92 u93 u94 u95 u96 u97 u98 u99 u100 u101 u102 u103 u104 u105 u106 u107 u108 u109 u110 u111 u112 u113 u114 u115 u116 u117 u118 u119 u120 u121 u122 u123 u124 u125 u126 u127 u128 u129 u130 u131 u132 u133 u134 u135 u136 u137 u138 u139 u140 u141 u142 u143 u144 u145 u146 u147 u148 u149 u150 u151 u152 u153 u154 u155 u156 u157 u158 u159 u160 u161 u162 u163 u164 u165 u166 u167 u168 u169 u170 u171 u172 u173 u174 u175 u176 u177 u178 u179 : Value) {r g b q j i n cap k ba oa : Nat} {w ws : World} {T : Tr} {X : List SE} {qv jv : Value} {R : List RN} {x : Chg}
 (hP : ∀ c (a a' : Act) w, a.defers = a'.defers → Q (.panic c) a w → Q (.panic c) a' w) (hil : (i : Int) < (n : Int)) (hnm : n ≤ 9223372036854775807) (HRG : Hid (∀ W, Below w.heap.size w W → W.rangeAt ba (oa + i * 4) x.cells)) (HFX : x.Fits) (HTB : Hid (Tabs w)) (HS : Hid (ChSt w.heap.size ws r T g b X q qv R T.bare j jv X)) (HG : Hid (Good k T ∧ T.clock ≤ k)) (hk : k ≤ 900) (HLW : Hid (Below w.heap.size w ws))
 (HK : ∀ (t34 t35 t36 t37 t38 t39 t40 t41 t42 t43 t44 t45 t46 t47 t48 : Value) (w' : World), (∃ (T' : Tr) (qv' : Value) (R' : List RN), ChSt w.heap.size w' r T' g b X q qv' R' T'.bare j jv X ∧ Good (k + 1) T' ∧ T'.clock ≤ k + 1 ∧ Below w.heap.size w w') → Q .normal ⟨#[.slice (some ⟨ba, oa, none⟩) n cap, u1, u2, .pointer (some ⟨r, 0, none⟩), .pointer (some ⟨q, 0, none⟩), u5, u6, .int .i64 (i : Int), u8, u9, u10, u11, u12, u13, u14, u15, u16, u17, u18, u19, u20, u21, u22, u23, u24, u25, u26, u27, u28, u29, u30, u31, u32, u33, t34, t35, t36, t37, t38, t39, t40, t41, t42, t43, t44, t45, t46, t47, t48, .bool false, u50, u51, u52, u53, u54, u55, u56, u57, u58, u59, u60, u61, u62, u63, u64, u65, u66, u67, u68, u69, u70, u71, u72, u73, u74, u75, u76, u77, u78, u79, u80, u81, u82, u83, u84, u85, u86, u87, u88, u89, u90, u91, u92, u93, u94, u95, u96, u97, u98, u99, u100, u101, u102, u103, u104, u105, u106, u107, u108, u109, u110, u111, u112, u113, u114, u115, u116, u117, u118, u119, u120, u121, u122, u123, u124, u125, u126, u127, u128, u129, u130, u131, u132, u133, u134, u135, u136, u137, u138, u139, u140, u141, u142, u143, u144, u145, u146, u147, u148, u149, u150, u151, u152, u153, u154, u155, u156, u157, u158, u159, u160, u161, u162, u163, u164, u165, u166, u167, u168, u169, u170, u171, u172, u173, u174, u175, u176, u177, u178, u179], []⟩ w') :
 Code.wp Tryz.prog (chR 8) Q ⟨#[.slice (some ⟨ba, oa, none⟩) n cap, u1, u2, .pointer (some ⟨r, 0, none⟩), .pointer (some ⟨q, 0, none⟩), u5, u6, .int .i64 (i : Int), u8, u9, u10, u11, u12, u13, u14, u15, u16, u17, u18, u19, u20, u21, u22, u23, u24, u25, u26, u27, u28, u29, u30, u31, u32, u33, u34, u35, u36, u37, u38, u39, u40, u41, u42, u43, u44, u45, u46, u47, u48, u49, u50, u51, u52, u53, u54, u55, u56, u57, u58, u59, u60, u61, u62, u63, u64, u65, u66, u67, u68, u69, u70, u71, u72, u73, u74, u75, u76, u77, u78, u79, u80, u81, u82, u83, u84, u85, u86, u87, u88, u89, u90, u91, u92, u93, u94, u95, u96, u97, u98, u99, u100, u101, u102, u103, u104, u105, u106, u107, u108, u109, u110, u111, u112, u113, u114, u115, u116, u117, u118, u119, u120, u121, u122, u123, u124, u125, u126, u127, u128, u129, u130, u131, u132, u133, u134, u135, u136, u137, u138, u139, u140, u141, u142, u143, u144, u145, u146, u147, u148, u149, u150, u151, u152, u153, u154, u155, u156, u157, u158, u159, u160, u161, u162, u163, u164, u165, u166, u167, u168, u169, u170, u171, u172, u173, u174, u175, u176, u177, u178, u179], []⟩ ws := by
 have HKH := Lib.hid HK
 clear HK
 conv => arg 2; whnf
 have HA := happens_is w.heap.size ws r T x.kind x.path x.more x.tick HFX.tick (by have := HFX.path; omega) (by have := HFX.more; omega) k (by omega) HG.out.1 HLW.out.size HS.out.tree
 unfold ptr at HA
 have HA := Lib.hid HA
 have HR1 := Lib.hid (HRG.out ws HLW.out)
 have hcx : x.cells = [.int .i64 x.kind, .string ⟨x.path.toArray⟩, .string ⟨x.more.toArray⟩, .int .u32 (x.tick : Int)] := rfl
 have HCX := Lib.hid hcx
 clear hcx
 go_wp2_with (first
  | (refine wpList_load_mid rfl _ _ rfl ba (oa + i * 4) rfl x.cells _ HR1.out Tryz.underlying36 rfl (infoChg x) ?_
     rw [HCX.out])
  | fail)
 refine HA.out.mono ?_
 rintro ex w4 hpost
 obtain ⟨rfl, T1, hs4, hg4, hc4, hbr, hl4⟩ := HS.out.hap HG.out.1 HG.out.2 hpost
 have HS4 := Lib.hid hs4; have HG4 := Lib.hid hg4; have HBR := Lib.hid hbr; have HC4 := Lib.hid hc4
 have HL4 := Lib.hid (HLW.out.trans hl4)
 have FO := follows_any w.heap.size w4 q qv R T.bare x.kind x.path x.more x.tick HFX.tick (by have := HFX.path; omega) (by have := HFX.more; omega) k (by omega) (HTB.out.below HL4.out) (goodF_of HS.out.tree HG.out.1) (by show T.clock ≤ _; have := HG.out.2; omega) HL4.out.size (hap_srt hs4.tree hg4 hbr) hs4.rt
 unfold ptr at FO
 have FO := Lib.hid FO
 have k0 : w4.cell? ⟨ba, oa + i * 4, none⟩ = some (.int .i64 x.kind) := HRG.out w4 HL4.out 0 _ rfl
 have k1 : w4.cell? ⟨ba, oa + i * 4 + 1, none⟩ = some (.string ⟨x.path.toArray⟩) := HRG.out w4 HL4.out 1 _ rfl
 have k2 : w4.cell? ⟨ba, oa + i * 4 + 2, none⟩ = some (.string ⟨x.more.toArray⟩) := HRG.out w4 HL4.out 2 _ rfl
 have k3 : w4.cell? ⟨ba, oa + i * 4 + 3, none⟩ = some (.int .u32 (x.tick : Int)) := HRG.out w4 HL4.out 3 _ rfl
 clear hpost hs4 hg4 hc4 hbr hl4 HA HR1 HCX
 go_wp2_with fail
 refine FO.out.mono ?_
 rintro ex w5 ⟨rfl, qv', R', ht5, hu5, ho5⟩
 have hs5 := HS4.out.follow ht5 hu5 ho5
 rw [← HBR.out] at hs5
 have HS5 := Lib.hid hs5
 have HL5 := Lib.hid (HL4.out.trans (HS4.out.lowF hu5))
 clear hs5 ht5 hu5 ho5 FO
 go_wp2
 exact HKH.out _ _ _ _ _ _ _ _ _ _ _ _ _ _ _ _ ⟨T1, qv', R', HS5.out, HG4.out, HC4.out, HL5.out⟩end Go.Proofs.YtnkapojbijbbaaaGreatDoor.Sr
