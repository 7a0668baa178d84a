import Derived.Test.YtnkapojbijbbaaaGreatDoorZPSrPieces
set_option linter.unusedSimpArgs false
set_option linter.unusedVariables false
set_option maxHeartbeats 40000000
set_option maxRecDepth 100000
namespace Go.Proofs.YtnkapojbijbbaaaGreatDoor.Sr
open Go.RowKit Go.Maps Go.WideMaps Rf Go.Proofs.YtnkapojbijbbaaaGreatDoor.Nm St
def onR (a : PN) (R : List RN) : List RN := R.filter fun m => a.isPrefixOf m.nm
theorem onR_more {a : PN} {R : List RN} {i : Nat} {y : RN} (h : R[i]? = some y) : onR a (R.take (i + 1)) = onR a (R.take i) ++ (if a.isPrefixOf y.nm then [y] else []) := by
 rw [List.take_add_one, h, onR, List.filter_append]
 cases hp : a.isPrefixOf y.nm <;> simp [onR, hp]
structure MvI (W w : World) (a b : PN) (R : List RN) (v17 v18 : Value) (k : Nat) (G : List RN) : Prop where
 bel : Below W.heap.size W w
 stay : w.ownsRow W.heap.size RnT 11 v17 (offR a (R.take k)).length (rcells (offR a (R.take k)))
 go : w.ownsRow W.heap.size RnT 11 v18 G.length (rcells G)
 dis : ∀ q ∈ ob v17, q ∉ ob v18
 te : G.map RN.te = (onR a (R.take k)).map fun m => (mvN a b m m.nv).te
 path : ∀ m ∈ G, PathAt W.heap.size w m.nv m.nm
 xs : ∀ m ∈ G, ∃ m0 ∈ R, m.xv = m0.xv ∧ m.at_ = m0.at_
 apart : ∀ m ∈ G, ∀ q ∈ ob m.nv, q ∉ ob v17 ∧ q ∉ ob v18
section
variable {W w w' : World} {a b : PN} {R : List RN} {v17 v18 : Value} {k : Nat} {G : List RN}
theorem MvI.lt (h : MvI W w a b R v17 v18 k G) : ∀ q ∈ ob v17 ++ (ob v18 ++ G.flatMap fun m => ob m.nv), q < w.heap.size := by
 intro q hq
 rw [List.mem_append, List.mem_append] at hq
 rcases hq with hq | hq | hq
 · exact rowS_lt h.stay q hq
 · exact rowS_lt h.go q hq
 · obtain ⟨m, hm, hq⟩ := List.mem_flatMap.1 hq
   exact rowS_lt (h.path m hm).row q hq
theorem MvI.kept (h : MvI W w a b R v17 v18 k G) (hb : Below W.heap.size W w') (hk : ∀ q ∈ ob v17 ++ (ob v18 ++ G.flatMap fun m => ob m.nv), w'.heap[q]? = w.heap[q]?) : MvI W w' a b R v17 v18 k G :=
 ⟨hb, rowS_kept h.stay (fun q hq _ => hk q (by rw [List.mem_append]; exact .inl hq)), rowS_kept h.go (fun q hq _ => hk q (by rw [List.mem_append, List.mem_append]; exact .inr (.inl hq))), h.dis, h.te,
  fun m hm => (h.path m hm).kept (fun q hq => hk q (by rw [List.mem_append, List.mem_append]; exact .inr (.inr (List.mem_flatMap.2 ⟨m, hm, hq⟩)))), h.xs, h.apart⟩
theorem MvI.below (h : MvI W w a b R v17 v18 k G) (hb : Below w.heap.size w w') : MvI W w' a b R v17 v18 k G :=
 h.kept (h.bel.trans (hb.mono h.bel.size)) (fun q hq => hb.block q (h.lt q hq))
theorem own_cases {v v' : Value} {s : Nat} (hv : v'.ownBlock = v.ownBlock ∨ v'.ownBlock = some s) : ∀ q ∈ ob v', q ∈ ob v ∨ q = s := by
 intro q hq
 simp only [ob, Option.mem_toList] at hq ⊢
 rcases hv with hv | hv
 · rw [hv] at hq; exact .inl hq
 · rw [hv] at hq; injection hq with hq; exact .inr hq.symm
theorem MvI.stayed (h : MvI W w a b R v17 v18 k G) {y : RN} (hy : R[k]? = some y) (hp : a.isPrefixOf y.nm = false) {v' : Value} {s : Nat} (hs : w.heap.size ≤ s) (ho : w'.ownsRow W.heap.size RnT 11 v' ((offR a (R.take k)).length + 1) (rcells (offR a (R.take k)) ++ y.cells)) (hb : Below W.heap.size W w') (hg : ∀ q, q < w.heap.size → some q ≠ v17.ownBlock → w'.heap[q]? = w.heap[q]?) (hv : v'.ownBlock = v17.ownBlock ∨ v'.ownBlock = some s) :
 MvI W w' a b R v' v18 (k + 1) G := by
 have hoff : offR a (R.take (k + 1)) = offR a (R.take k) ++ [y] := by rw [offR_more hy, hp]; rfl
 have hon : onR a (R.take (k + 1)) = onR a (R.take k) := by rw [onR_more hy, hp]; exact List.append_nil _
 have hne : ∀ q, q ∉ ob v17 → some q ≠ v17.ownBlock := fun q hq e => hq (by simp [ob, ← e])
 refine ⟨hb, ?_, rowS_kept h.go (fun q hq hl => hg q hl (hne q (fun h1 => h.dis q h1 hq))), fun q hq hq2 => ?_, by rw [hon]; exact h.te, fun m hm => (h.path m hm).kept (fun q hq => hg q (rowS_lt (h.path m hm).row q hq) (hne q (h.apart m hm q hq).1)), h.xs, fun m hm q hq => ⟨fun h1 => ?_, (h.apart m hm q hq).2⟩⟩
 · rw [hoff, ← rcells_one, List.length_append]; exact ho
 · rcases own_cases hv q hq with h1 | h1
   · exact h.dis q h1 hq2
   · have := rowS_lt h.go q hq2; omega
 · rcases own_cases hv q h1 with h1 | h1
   · exact (h.apart m hm q hq).1 h1
   · have := rowS_lt (h.path m hm).row q hq; omega
theorem MvI.gone (h : MvI W w a b R v17 v18 k G) {y : RN} (hy : R[k]? = some y) (hp : a.isPrefixOf y.nm = true) {nv : Value} (hpath : PathAt W.heap.size w nv (b ++ y.nm.drop a.length)) (hap : ∀ q ∈ ob nv, q ∉ ob v17 ∧ q ∉ ob v18) {v' : Value} {s : Nat} (hs : w.heap.size ≤ s) (ho : w'.ownsRow W.heap.size RnT 11 v' (G.length + 1) (rcells G ++ (mvN a b y nv).cells)) (hb : Below W.heap.size W w') (hg : ∀ q, q < w.heap.size → some q ≠ v18.ownBlock → w'.heap[q]? = w.heap[q]?) (hv : v'.ownBlock = v18.ownBlock ∨ v'.ownBlock = some s) :
 MvI W w' a b R v17 v' (k + 1) (G ++ [mvN a b y nv]) := by
 have hoff : offR a (R.take (k + 1)) = offR a (R.take k) := by rw [offR_more hy, hp]; exact List.append_nil _
 have hon : onR a (R.take (k + 1)) = onR a (R.take k) ++ [y] := by rw [onR_more hy, hp]; rfl
 have hne : ∀ q, q ∉ ob v18 → some q ≠ v18.ownBlock := fun q hq e => hq (by simp [ob, ← e])
 refine ⟨hb, by rw [hoff]; exact rowS_kept h.stay (fun q hq hl => hg q hl (hne q (h.dis q hq))), ?_, fun q hq hq2 => ?_, ?_, fun m hm => ?_, fun m hm => ?_, fun m hm q hq => ?_⟩
 · rw [← rcells_one, List.length_append]; exact ho
 · rcases own_cases hv q hq2 with h1 | h1
   · exact h.dis q hq h1
   · have := rowS_lt h.stay q hq; omega
 · rw [hon, List.map_append, List.map_append, h.te]; rfl
 · rcases List.mem_append.1 hm with hm | hm
   · exact (h.path m hm).kept (fun q hq => hg q (rowS_lt (h.path m hm).row q hq) (hne q (h.apart m hm q hq).2))
   · obtain rfl := List.mem_singleton.1 hm
     exact hpath.kept (fun q hq => hg q (rowS_lt hpath.row q hq) (hne q (hap q hq).2))
 · rcases List.mem_append.1 hm with hm | hm
   · exact h.xs m hm
   · obtain rfl := List.mem_singleton.1 hm
     exact ⟨y, List.mem_of_getElem? hy, rfl, rfl⟩
 · have key : q < w.heap.size ∧ q ∉ ob v17 ∧ q ∉ ob v18 := by
    rcases List.mem_append.1 hm with hm | hm
    · exact ⟨rowS_lt (h.path m hm).row q hq, h.apart m hm q hq⟩
    · obtain rfl := List.mem_singleton.1 hm
      exact ⟨rowS_lt hpath.row q hq, hap q hq⟩
   refine ⟨key.2.1, fun h1 => ?_⟩
   rcases own_cases hv q h1 with h1 | h1
   · exact key.2.2 h1
   · have := key.1; omega
end
theorem mv_b2 {Q : Exit → Act → World → Prop} (u1 u2 u3 u4 u5 u6 u8 u10 u11 u12 u13 u14 u15 u16 u20 u21 u22 u23 u24 u25 u26 u27 u28 u29 u30 u31 u32 u33 u34 u35 u36 u37 u38 u39 u40 u41 u42 u43 u44 u45 u46 u47 u48 u49 u50 u51 u52 u53 u54 u55 u56 u57 u58 u59 u60 u61 u62 u63 u64 u65 u66 u67 u68 u69 u70 u71 u72 u73 u74 u75 u76 u77 u78 u79 u80 u81 u82 u83 u84 u85 u86 u87 u88 u89 u90 u91 u92 u93 u94 u95 u96 u97 u98 u99 u100 u101 u102 u103 u104 u105 u106 u107 u108 u109 u110 u111 u112 u113 u114 u115 u116 u117 u118 u119 u120 u121 u122 u123 u124 u125 u126 u127 u128 u129 u130 u131 u132 u133 u134 u135 u136 u137 u138 u139 u140 u141 u142 u143 u144 u145 u146 u147 u148 u149 u150 u151 u152 u153 u154 u155 u156 u157 u158 u159 u160 u161 u162 u163 u164 u165 u166 u167 u168 u169 u170 u171 u172 u173 u174 u175 u176 u177 u178 u179 u180 u181 u182 u183 u184 u185 u186 u187 u188 u189 u190 u191 u192 u193 u194 u195 u196 u197 u198 u199 u200 u201 u202 u203 u204 u205 u206 u207 u208 u209 u210 u211 u212 u213 u214 u215 u216 u217 u218 u219 u220 u221 u222 u223 u224 u225 u226 : Value) {B B2 : Nat} {r ac bc vc : Nat} {va aa ba : Option Addr} {a b : PN} {R : List RN} {F : Tr} {W : World}
 (hP : ∀ c (a a' : Act) w, a.defers = a'.defers → Q (.panic c) a w → Q (.panic c) a' w) (hlen : R.length ≤ 1000000) (hal : a.length ≤ 1000) (hbl : b.length ≤ 1000) (hane : a ≠ []) (H : Hid (RTree B W r (.slice va R.length vc) R F)) (HA : Hid (St.StrsAt W (.slice aa a.length ac) a)) (HPB : Hid (PathAt B2 W (.slice ba b.length bc) b)) (HD16 : Hid (∀ m ∈ R, m.nm.length ≤ 1000))
 (HK : ∀ (t17 t18 t19 t20 t173 t174 t175 t176 t177 t178 t179 t180 t181 t182 t183 t184 t185 t186 t187 t188 t189 t190 t191 t192 t193 t194 t195 t196 t197 t198 t199 t200 t201 t202 t203 t204 t205 t206 t207 t208 t209 t210 : Value) (w' : World), (∃ G, MvI W w' a b R t17 t18 R.length G) → Q .normal ⟨#[.pointer (some ⟨r, 0, none⟩), u1, u2, u3, u4, u5, u6, .slice aa a.length ac, u8, .slice ba b.length bc, u10, u11, u12, u13, u14, u15, u16, t17, t18, t19, t20, u21, u22, u23, u24, u25, u26, u27, u28, u29, u30, u31, u32, u33, u34, u35, u36, u37, u38, u39, u40, u41, u42, u43, u44, u45, u46, u47, u48, u49, u50, u51, u52, u53, u54, u55, u56, u57, u58, u59, u60, u61, u62, u63, u64, u65, u66, u67, u68, u69, u70, u71, u72, u73, u74, u75, u76, u77, u78, u79, u80, u81, u82, u83, u84, u85, u86, u87, u88, u89, u90, u91, u92, u93, u94, u95, u96, u97, u98, u99, u100, u101, u102, u103, u104, u105, u106, u107, u108, u109, u110, u111, u112, u113, u114, u115, u116, u117, u118, u119, u120, u121, u122, u123, u124, u125, u126, u127, u128, u129, u130, u131, u132, u133, u134, u135, u136, u137, u138, u139, u140, u141, u142, u143, u144, u145, u146, u147, u148, u149, u150, u151, u152, u153, u154, u155, u156, u157, u158, u159, u160, u161, u162, u163, u164, u165, u166, u167, u168, u169, u170, u171, u172, t173, t174, t175, t176, t177, t178, t179, t180, t181, t182, t183, t184, t185, t186, t187, t188, t189, t190, t191, t192, t193, t194, t195, t196, t197, t198, t199, t200, t201, t202, t203, t204, t205, t206, t207, t208, t209, t210, u211, u212, u213, u214, u215, u216, u217, u218, u219, u220, u221, u222, u223, u224, u225, u226], []⟩ w') :
 Code.wp Tryz.prog (mvB 2) Q ⟨#[.pointer (some ⟨r, 0, none⟩), u1, u2, u3, u4, u5, u6, .slice aa a.length ac, u8, .slice ba b.length bc, u10, u11, u12, u13, u14, u15, u16, .slice none 0 0, .slice none 0 0, .int .i64 0, u20, u21, u22, u23, u24, u25, u26, u27, u28, u29, u30, u31, u32, u33, u34, u35, u36, u37, u38, u39, u40, u41, u42, u43, u44, u45, u46, u47, u48, u49, u50, u51, u52, u53, u54, u55, u56, u57, u58, u59, u60, u61, u62, u63, u64, u65, u66, u67, u68, u69, u70, u71, u72, u73, u74, u75, u76, u77, u78, u79, u80, u81, u82, u83, u84, u85, u86, u87, u88, u89, u90, u91, u92, u93, u94, u95, u96, u97, u98, u99, u100, u101, u102, u103, u104, u105, u106, u107, u108, u109, u110, u111, u112, u113, u114, u115, u116, u117, u118, u119, u120, u121, u122, u123, u124, u125, u126, u127, u128, u129, u130, u131, u132, u133, u134, u135, u136, u137, u138, u139, u140, u141, u142, u143, u144, u145, u146, u147, u148, u149, u150, u151, u152, u153, u154, u155, u156, u157, u158, u159, u160, u161, u162, u163, u164, u165, u166, u167, u168, u169, u170, u171, u172, u173, u174, u175, u176, u177, u178, u179, u180, u181, u182, u183, u184, u185, u186, u187, u188, u189, u190, u191, u192, u193, u194, u195, u196, u197, u198, u199, u200, u201, u202, u203, u204, u205, u206, u207, u208, u209, u210, u211, u212, u213, u214, u215, u216, u217, u218, u219, u220, u221, u222, u223, u224, u225, u226], []⟩ W := by
 have HKH := Lib.hid HK
 clear HK
 conv => arg 2; whnf
 obtain ⟨i0, hi0, hz0, hz1, hz2⟩ := info_parts infoRn
 have hz3 : zeroRn.cells.size = 11 := by kernel_rfl
 have HLEN := Lib.hid hlen
 go_wp2
 go_loopw [17, 18, 19] (fun v17 v18 v19 wr => ∃ (i : Nat) (G : List RN), i ≤ R.length ∧ v19 = .int .i64 (i : Int) ∧ Hid (MvI W wr a b R v17 v18 i G)) (fun _ _ v19 _ => R.length - (RowKit.intOf v19).toNat)
 case atStart => exact ⟨0, [], Nat.zero_le _, rfl, Lib.hid ⟨Below.refl _ _, rowS_nil _ _ _ _, rowS_nil _ _ _ _, fun q hq => by simp [ob, Value.ownBlock] at hq, rfl, by simp, by simp, by simp⟩⟩
 case round =>
  obtain ⟨i, G, hi, rfl, HI⟩ := hrel
  have HX := Lib.hid (H.out.below HI.out.bel)
  have c0 : wr.cell? ⟨r, 0, none⟩ = some (.slice va R.length vc) := cell_of_heap HX.out.book
  by_cases hil : (i : Int) < (R.length : Int)
  · have hi1 : i < R.length := by omega
    obtain ⟨n, hn⟩ : ∃ n, R[i]? = some n := ⟨_, List.getElem?_eq_getElem hi1⟩
    obtain ⟨gv, cap, hv, hgv⟩ := HX.out.form (by omega)
    injection hv with e1 e2 e3
    subst e1 e3
    have HN := Lib.hid hn
    have HMEM := Lib.hid (List.mem_of_getElem? hn)
    have hd16 := HD16.out n HMEM.out
    have HENT := Lib.hid (HX.out.ent hn)
    have nones := Lib.hid (HX.out.ones (List.mem_of_getElem? hn))
    have HON : Hid (n.cells.toArray.all (·.oneCell') = true) := Lib.hid (all_oneCell_toArray nones.out)
    have HAL : Hid ((wr.alloc (.cells #[.slice none 0 0, .int .u8 0, .int .u32 0, .int .u32 0, .int .u32 0, .int .i64 0, .string ⟨#[]⟩, .slice none 0 0, .string ⟨#[]⟩, .int .u64 0, .int .i64 0] RnT)).heap[wr.heap.size]? = some (.cells #[.slice none 0 0, .int .u8 0, .int .u32 0, .int .u32 0, .int .u32 0, .int .i64 0, .string ⟨#[]⟩, .slice none 0 0, .string ⟨#[]⟩, .int .u64 0, .int .i64 0] RnT)) := Lib.hid (MapKept.heap_alloc wr _).1
    have HIN1 := Lib.hid (infoRn1 n)
    obtain ⟨na, nc, hnv⟩ := rowS_slice (HX.out.node n HMEM.out).1.row
    have HNV := Lib.hid hnv
    clear hn hnv e2
    go_upto_region 33 with (first
     | (refine wpList_load_mid rfl _ _ rfl gv (i * 11) rfl n.cells _ HENT.out Tryz.underlying86 rfl HIN1.out ?_)
     | (refine Sh.wpList_store_at HAL.out rfl RnT (.tmp 20) (.tmp 188) rfl n.cells.toArray rfl rfl HIN1.out rfl HON.out ?_
        intro w2 hq2 ht2 hs2
        have HQ2 := Lib.hid hq2
        have HB2 : Hid (Below wr.heap.size wr w2) := Lib.hid (((Below.refl wr.heap.size wr).alloc (Nat.le_refl _) _).trans (ht2.below (by simp) (by rw [one_size]; omega)))
        have HS2 : Hid (w2.heap.size = wr.heap.size + 1) := Lib.hid (by rw [hs2, one_size])
        clear hq2 ht2 hs2))
    have HI2 := Lib.hid (HI.out.below HB2.out)
    have HX2 := Lib.hid (HX.out.below HB2.out)
    have cv : w2.cell? ⟨wr.heap.size, 0, none⟩ = some (.slice na n.nm.length nc) := (cell_of_heap HQ2.out).trans (by rw [← HNV.out]; rfl)
    have HAW := HA.out.below (HI.out.bel.trans (HB2.out.mono HI.out.bel.size))
    have CB := begins_any w2 _ n.nv a n.nm HAW (HX2.out.node n HMEM.out).1.strs
    rw [HNV.out] at CB
    cases hpre : a.isPrefixOf n.nm with
    | false =>
      rw [hpre] at CB
      have CB := Lib.hid CB
      have HPRE := Lib.hid hpre
      clear hpre HAW
      go_wp2_with fail
      refine CB.out.mono ?_
      rintro ez w5 ⟨rfl, hb5⟩
      have HI5 := Lib.hid (HI2.out.below hb5)
      have HQ5 := Lib.hid ((hb5.block _ (lt_of_heap HQ2.out)).trans HQ2.out)
      have HBS : Hid (W.heap.size ≤ w5.heap.size) := Lib.hid HI5.out.bel.size
      have hnl := Nat.le_trans (offR_len a (R.take i)) (by rw [List.length_take]; exact Nat.min_le_right _ _ : (R.take i).length ≤ R.length)
      clear hb5 CB
      go_wp2_with (first
       | (refine Sh.wpList_load_at (T := RnT) (cs := n.cells.toArray) HQ5.out rfl RnT (.tmp 20) rfl rfl _ Tryz.underlying86 rfl (infoRn1 n) ?_)
       | (refine wpList_oneH 11 (by decide) (by decide) rfl 87 RnT (.tmp 208) n.cells i0 _ rfl rfl Tryz.underlying87 hi0 hz0 hz1 rfl ?_
          intro yd wd hhd hgd hyd hsd
          have HHd := Lib.hid hhd; have HGd := Lib.hid hgd; have HYd := Lib.hid hyd; have HSd := Lib.hid hsd
          clear hhd hgd hyd hsd)
       | (refine wpList_appendN 11 (by decide) rfl _ _ 87 rfl W.heap.size RnT i0 _ 120 Tryz.underlying87 hi0 hz0 hz1 hz2 hz3 u17 (offR a (R.take i)).length (rcells (offR a (R.take i))) rfl (rowS_kept HI5.out.stay (fun x _ hl => HGd.out.block x hl (fun h => nomatch h))) _ 1 n.cells rfl HHd.out rfl nones.out (by have := HLEN.out; unfold maxLen; omega) (by have := HLEN.out; omega) (by have := HBS.out; have := HSd.out; omega) ?_
          intro vd xd hod hgd hvd
          have HOd := Lib.hid hod; have HKd := Lib.hid hgd; have HVd := Lib.hid hvd
          clear hod hgd hvd))
      go_roundw
      case rel =>
       refine ⟨i + 1, G, by omega, by go_num, Lib.hid ?_⟩
       have hb6 : Below W.heap.size W xd := (HI5.out.bel.grown HGd.out HI5.out.bel.size (fun k hk => nomatch hk)).grown HKd.out (Nat.le_trans HI5.out.bel.size HGd.out.size) (fun x hx => rowS_ge HI5.out.stay x (by simp [ob, hx]))
       exact HI5.out.stayed HN.out HPRE.out HGd.out.size HOd.out hb6 (fun q hq hne => (HKd.out.block q (Nat.lt_of_lt_of_le hq HGd.out.size) hne).trans (HGd.out.block q hq (fun h => nomatch h))) HVd.out
      case measure => simp [RowKit.intOf]; omega
    | true =>
      have hle := (pre_at.1 hpre).1
      rw [hpre] at CB
      have CB := Lib.hid CB
      have HPRE := Lib.hid hpre
      clear hpre HAW
      go_wp2_with fail
      refine CB.out.mono ?_
      rintro ez w5 ⟨rfl, hb5⟩
      have HI5 := Lib.hid (HI2.out.below hb5)
      have hq5 := (hb5.block _ (lt_of_heap HQ2.out)).trans HQ2.out
      have HQ5 := Lib.hid hq5
      have HX5 := Lib.hid (HX2.out.below hb5)
      have hnn : n.nm ≠ [] := fun h0 => by rw [h0] at hle; simp at hle; exact hane hle
      obtain ⟨gn, nc2, hnv2, _⟩ := ((HX5.out.node n HMEM.out).1).front hnn
      have HPN := Lib.hid (HX5.out.node n HMEM.out).1
      rw [hnv2] at HPN
      have HPB5 : Hid (PathAt B2 w5 (.slice ba b.length bc) b) := Lib.hid ((HPB.out.below (HI5.out.bel)))
      have HBS5 := Lib.hid hb5
      clear hb5 CB hq5
      go_upto_region 34 with (fail)
      refine mv_r34 _ _ _ _ _ _ _ _ _ _ _ _ _ _ _ _ _ _ _ _ _ _ _ _ _ _ _ _ _ _ _ _ _ _ _ _ _ _ _ _ _ _ _ _ _ _ _ _ _ _ _ _ _ _ _ _ _ _ _ _ _ _ _ _ _ _ _ _ _ _ _ _ _ _ _ _ _ _ _ _ _ _ _ _ _ _ _ _ _ _ _ _ _ _ _ _ _ _ _ _ _ _ _ _ _ _ _ _ _ _ _ _ _ _ _ _ _ _ _ _ _ _ _ _ _ _ _ _ _ _ _ _ _ _ _ _ _ _ _ _ _ _ _ _ _ _ _ _ _ _ _ _ _ _ _ _ _ _ _ _ _ _ _ _ _ _ _ _ _ _ _ _ _ _ _ _ _ _ _ _ _ _ _ _ _ _ _ _ _ _ _ _ _ _ _ _ _ _ _ _ _ _ _ _ _ _ _ _ _ _ _ _ _ _ _ _ _ _ _ _ _ _ _ _ (fun c a a' w hd h => hP c a a' w hd h) hal hbl hd16 hle HQ5 hnv2 HPB5 HPN ?_
      intro t193 t194 t195 t196 t197 t198 t199 t200 t201 t202 w6 h6
      obtain ⟨nv6, hq6, hp6, ht6⟩ := h6
      have hsz5 : wr.heap.size < w5.heap.size := lt_of_heap HQ5.out
      have hge6 : ∀ q ∈ ob nv6, w5.heap.size ≤ q := fun q hq => rowS_ge hp6.row q hq
      have HI6 : Hid (MvI W w6 a b R u17 u18 i G) := Lib.hid (HI5.out.kept (HI5.out.bel.trans (ht6.below (by intro x hx; obtain rfl := List.mem_singleton.1 hx; exact HI.out.bel.size) HI5.out.bel.size)) (fun q hq => ht6.block q (HI5.out.lt q hq) (by
       have h1 := HI.out.lt q hq
       intro hm; have := List.mem_singleton.1 hm; omega)))
      have HP6 : Hid (PathAt W.heap.size w6 nv6 (b ++ n.nm.drop a.length)) := Lib.hid ⟨row_mono hp6.row HI5.out.bel.size, hp6.len⟩
      have HAP6 : Hid (∀ q ∈ ob nv6, q ∉ ob u17 ∧ q ∉ ob u18) := Lib.hid (fun q hq => ⟨fun h1 => by
       have h2 := HI5.out.lt q (by rw [List.mem_append]; exact .inl h1)
       have h3 := hge6 q hq; omega, fun h1 => by
       have h2 := HI5.out.lt q (by rw [List.mem_append, List.mem_append]; exact .inr (.inl h1))
       have h3 := hge6 q hq; omega⟩)
      obtain ⟨N, hN⟩ : ∃ N, N = mvN a b n nv6 := ⟨_, rfl⟩
      rw [← hN] at hq6
      have HQ6 := Lib.hid hq6; have HNN := Lib.hid hN
      have Nones : Hid (∀ u ∈ N.cells, u.oneCell' = true) := Lib.hid (by
       rw [hN]
       exact rn_ones (strs_one HP6.out.strs) (xs_one (HX5.out.node n HMEM.out).2))
      have HBS : Hid (W.heap.size ≤ w6.heap.size) := Lib.hid HI6.out.bel.size
      have hnl : G.length ≤ R.length := by
       have h1 := congrArg List.length HI6.out.te
       rw [List.length_map, List.length_map] at h1
       have h2 : (onR a (R.take i)).length ≤ (R.take i).length := List.length_filter_le _ _
       rw [List.length_take] at h2
       omega
      clear hq6 hp6 ht6 hN hge6 hnv2
      go_wp2_with (first
       | (refine Sh.wpList_load_at (T := RnT) (cs := N.cells.toArray) HQ6.out rfl RnT (.tmp 20) rfl rfl _ Tryz.underlying86 rfl (infoRn1 N) ?_)
       | (refine wpList_oneH 11 (by decide) (by decide) rfl 87 RnT (.tmp 204) N.cells i0 _ rfl rfl Tryz.underlying87 hi0 hz0 hz1 rfl ?_
          intro yd wd hhd hgd hyd hsd
          have HHd := Lib.hid hhd; have HGd := Lib.hid hgd; have HYd := Lib.hid hyd; have HSd := Lib.hid hsd
          clear hhd hgd hyd hsd)
       | (refine wpList_appendN 11 (by decide) rfl _ _ 87 rfl W.heap.size RnT i0 _ 120 Tryz.underlying87 hi0 hz0 hz1 hz2 hz3 u18 G.length (rcells G) rfl (rowS_kept HI6.out.go (fun x _ hl => HGd.out.block x hl (fun h => nomatch h))) _ 1 N.cells rfl HHd.out rfl Nones.out (by have := HLEN.out; unfold maxLen; omega) (by have := HLEN.out; omega) (by have := HBS.out; have := HSd.out; omega) ?_
          intro vd xd hod hgd hvd
          have HOd := Lib.hid hod; have HKd := Lib.hid hgd; have HVd := Lib.hid hvd
          clear hod hgd hvd))
      go_roundw
      case rel =>
       refine ⟨i + 1, G ++ [N], by omega, by go_num, Lib.hid ?_⟩
       have hb7 : Below W.heap.size W xd := (HI6.out.bel.grown HGd.out HI6.out.bel.size (fun k hk => nomatch hk)).grown HKd.out (Nat.le_trans HI6.out.bel.size HGd.out.size) (fun x hx => rowS_ge HI6.out.go x (by simp [ob, hx]))
       have hod := HOd.out
       rw [HNN.out] at hod ⊢
       exact HI6.out.gone HN.out HPRE.out HP6.out HAP6.out HGd.out.size hod hb7 (fun q hq hne => (HKd.out.block q (Nat.lt_of_lt_of_le hq HGd.out.size) hne).trans (HGd.out.block q hq (fun h => nomatch h))) HVd.out
      case measure => simp [RowKit.intOf]; omega
  · obtain rfl : i = R.length := by omega
    go_wp2
    exact HKH.out _ _ _ _ _ _ _ _ _ _ _ _ _ _ _ _ _ _ _ _ _ _ _ _ _ _ _ _ _ _ _ _ _ _ _ _ _ _ _ _ _ _ _ ⟨G, HI.out⟩
end Go.Proofs.YtnkapojbijbbaaaGreatDoor.Sr
