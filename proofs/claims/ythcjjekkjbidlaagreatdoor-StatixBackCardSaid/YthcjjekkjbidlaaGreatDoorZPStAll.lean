import Derived.Test.YthcjjekkjbidlaaGreatDoorZPStStrs
import Derived.Test.YthcjjekkjbidlaaGreatDoorZPStHeld
import Derived.Test.YthcjjekkjbidlaaGreatDoorZPStSort
import Derived.Test.YthcjjekkjbidlaaGreatDoorZPSrAdd
import Derived.Test.YthcjjekkjbidlaaGreatDoorZPSrSub
import Derived.Test.YthcjjekkjbidlaaGreatDoorZPStBackPlain
import Derived.Test.YthcjjekkjbidlaaGreatDoorZPStRead2
import Derived.Laws.Bits64b
import Derived.Laws.BitsLemmas
import Derived.Test.YthcjjekkjbidlaaGreatDoorZPRowKit
import Derived.Laws.Shifts
import Derived.Laws.Closers25b
import Derived.Laws.BitsAllLaws
set_option linter.unusedSimpArgs false
set_option linter.unusedVariables false
/-
  The contract of the program's All.
-/
namespace Go.Proofs.YthcjjekkjbidlaaGreatDoor.St
open Go.RowKit Go.Maps Go.WideMaps Go.Proofs.YthcjjekkjbidlaaGreatDoor.Rf Go.Proofs.YthcjjekkjbidlaaGreatDoor.Rd

theorem strKeys_toD {α : Type} (enc : α → Value) (m : MV α) : strKeys (toD enc m) = m.map (·.1) := by
  show (m.map fun p => ((Lit.string p.1, DataW.held (enc p.2)) : Lit × DataW Value)).map (fun p => strOf p.1) = _
  rw [List.map_map]; rfl
theorem keys_sorted {L : List SE} (hs : Srt L) {ss : List (List UInt8)} (h : ss.Perm (strKeys (toD enV (toZ L)))) : ss.mergeSort (fun x y => decide (x ≤ y)) = L.map (·.path) := by
  rw [strKeys_toD, toZ_keys] at h
  rw [mergeSort_of_perm h, srt_sort hs]
theorem ss_len {L : List SE} (hs : Srt L) {ss : List (List UInt8)} (h : ss.Perm (strKeys (toD enV (toZ L)))) : ss.length = L.length := by
  have e1 := congrArg List.length (keys_sorted hs h)
  rw [List.length_mergeSort, List.length_map] at e1; exact e1
/-- What All leaves. -/
def AllPost (w : World) (L : List SE) (e : Ending) (w' : World) : Prop :=
  ∃ v, e = .returned v ∧ w'.ownsRow w.heap.size 44 38 v L.length (cellsS L) ∧ Below w.heap.size w w'

set_option maxHeartbeats 8000000 in
set_option maxRecDepth 100000 in
theorem all_any (B : Nat) (w : World) (g b : Nat) (L : List SE) (h : IndexAt B w g b L) :
    Calls Tryz.prog 45 #[ptr g] w (AllPost w L) := by
  have c0 : w.cell? ⟨g, 0, none⟩ = some (.map (some b)) := cell_of_heap h.book
  have hll := h.len
  have hlen := h.map.len Tryz.underlying116
  simp only [toD_size, toZ_length] at hlen
  obtain ⟨i0, hi0, hz0, hz1, hz2⟩ := info_parts infoZ
  have hz3 : (enV zeroS).cells.size = 38 := by kernel_rfl
  obtain ⟨w1, hmk, ho1, hg1⟩ := run_make_own (P := Tryz.prog) w w.heap.size 96 44 i0 (enV zeroS) 38 Tryz.underlying96 hi0 hz0 hz1 .i64 .i64 L.length (by rw [hz2]; omega) (by unfold maxLen; omega) (Nat.le_refl _)
  have hb1 : Below w.heap.size w w1 := (Below.refl _ _).grown hg1 (Nat.le_refl _) (fun k hk => nomatch hk)
  have hw1 : w.heap.size < w1.heap.size := rowS_lt ho1 w.heap.size (by simp [ob, Value.ownBlock])
  have h1 := h.below hb1
  have c1 : w1.cell? ⟨g, 0, none⟩ = some (.map (some b)) := cell_of_heap h1.book
  have KE := Lib.hid (Tryz.keys (some b) w1)
  have SK := Lib.hid (Tryz.sortedKeys b 1000000 _ _ w1 h1.map (by rw [toD_size, toZ_length]; unfold maxLen; omega) (by rw [toD_size, toZ_length]; omega))
  have H := Lib.hid h; have HB1 := Lib.hid hb1; have HO1 := Lib.hid ho1; have HW1 := Lib.hid hw1
  have HFT := Lib.hid h.fits
  clear h h1 hb1 ho1 hg1 hw1
  unfold ptr
  go_enter Tryz.func45, Tryz.ntmps45
  go_wp2_with (first
    | (go_at_call 96; refine KE.out.mono ?_; rintro e w2 ⟨rfl, rfl⟩)
    | (go_at_call 95; refine SK.out.mono ?_; rintro e w3 ⟨nv, ss, rfl, hp, ho, _, hb⟩; rw [keys_sorted H.out.srt hp, ss_len H.out.srt hp] at ho; obtain ⟨na, nc, rfl⟩ := rowS_slice ho; have HO := Lib.hid ho; have HB := Lib.hid hb; clear hp ho hb))
  have HB3 : Hid (Below w.heap.size w w3) := Lib.hid ((HB1.out.alloc HB1.out.size _).trans (HB.out.mono (by rw [one_size]; have := HW1.out; omega)))
  have HO3 : Hid (w3.ownsRow w.heap.size 44 38 (.slice (some ⟨w.heap.size, 0, none⟩) 0 L.length) 0 []) := Lib.hid (rowS_kept HO1.out (fun x hx hl => (HB.out.block x (by rw [one_size]; omega)).trans (Below.heap_alloc _ _ _ hl)))
  have HN : Hid (∀ q, (.slice na L.length nc : Value).ownBlock = some q → w1.heap.size < q) := Lib.hid (fun q hq => by have := rowS_ge HO.out q (by simp [ob, hq]); rw [one_size] at this; omega)
  have HNM := Lib.hid (row_mono HO.out (Nat.zero_le _))
  clear SK KE hmk HO HB HO1 hlen c0 c1
  go_loopw [3, 21] (fun v3 v21 wr => ∃ k : Nat, k ≤ L.length ∧ v21 = .int .i64 k ∧ Hid (wr.ownsRow w.heap.size 44 38 v3 k (cellsS (L.take k))) ∧ Hid (Below w.heap.size w wr) ∧ Hid (wr.ownsRow 0 9 1 (.slice na L.length nc) L.length ((L.map (·.path)).map encStr)) ∧ Hid (∀ q r, v3.ownBlock = some q → (.slice na L.length nc : Value).ownBlock = some r → q ≠ r)) (fun _ v21 _ => L.length - (RowKit.intOf v21).toNat)
  case atStart => exact ⟨0, by omega, rfl, HO3, HB3, HNM, Lib.hid (fun q r hq hr => by have := HN.out r hr; have hq : some w.heap.size = some q := hq; injection hq with hq; have := HB1.out.size; omega)⟩
  case round =>
    obtain ⟨k, hk, rfl, HR, HBR, HNR, HD⟩ := hrel
    by_cases hkl : (k : Int) < (L.length : Int)
    · have hk2 : k < L.length := by omega
      obtain ⟨e, he⟩ : ∃ e, L[k]? = some e := ⟨_, List.getElem?_eq_getElem hk2⟩
      have hem := List.mem_of_getElem? he
      obtain ⟨gn, cap, hnv, hgn, _, _, hcell⟩ := rowS_form HNR.out (by omega)
      injection hnv with e1 e2 e3
      subst e1 e3
      have cn : wr.cell? ⟨gn, k, none⟩ = some (.string ⟨e.path.toArray⟩) := hcell k _ (by rw [List.getElem?_map, List.getElem?_map, he]; rfl)
      have HIX := Lib.hid (H.out.below HBR.out)
      have cg : wr.cell? ⟨g, 0, none⟩ = some (.map (some b)) := cell_of_heap HIX.out.book
      have hpl := (HFT.out e hem).path
      have hlk : (getL (⟨e.path.toArray⟩ : ByteArray).data.toList L) = some e := by rw [ba_data]; exact getL_mem H.out.srt hem
      have HLK := Lib.hid hlk
      have HPZ : Hid ((⟨e.path.toArray⟩ : ByteArray).size ≤ maxLen) := Lib.hid (by show e.path.length ≤ _; unfold maxLen; omega)
      have HE38 : Hid (e.cells.length = 38) := Lib.hid (cells_size (HFT.out e hem).id)
      have HTK := Lib.hid (take_cells he)
      clear hlk hcell hem he hpl
      go_wp2_with (first
        | (refine wpList_look1 HIX.out rfl _ _ rfl rfl ⟨e.path.toArray⟩ rfl HPZ.out ?_; rw [HLK.out]; dsimp only [Option.getD])
        | (refine wpList_one rfl 96 44 (.tmp 31) e.cells i0 _ rfl rfl Tryz.underlying96 hi0 hz0 hz1 HE38.out ?_
           intro y w4 hh4 hg4 hy4 hs4
           have HH4 := Lib.hid hh4; have HG4 := Lib.hid hg4; have HY4 := Lib.hid hy4; have HS4 := Lib.hid hs4
           clear hh4 hg4 hy4 hs4)
        | (refine wpList_append38 rfl _ _ 96 rfl w.heap.size 44 i0 _ 88 Tryz.underlying96 hi0 hz0 hz1 hz2 hz3 u3 k (cellsS (L.take k)) rfl (rowS_kept HR.out (fun x _ hl => HG4.out.block x hl (fun h => nomatch h))) _ 1 e.cells rfl HH4.out (by rw [HE38.out]) (cells_one e) (by unfold maxLen; omega) (by omega) (by have := HBR.out.size; have := HS4.out; omega) ?_
           intro v5 w5 ho5 hg5 hv5
           have HO5 := Lib.hid ho5; have HG5 := Lib.hid hg5; have HV5 := Lib.hid hv5
           clear ho5 hg5 hv5))
      go_roundw
      case rel =>
        have hb4 : Below w.heap.size w w4 := HBR.out.grown HG4.out HBR.out.size (fun k hk => nomatch hk)
        refine ⟨k + 1, by omega, by go_num, Lib.hid ?_, Lib.hid ?_, Lib.hid ?_, Lib.hid ?_⟩
        · rw [← HTK.out]; exact HO5.out
        · exact hb4.grown HG5.out hb4.size (fun x hx => rowS_ge HR.out x (by simp [ob, hx]))
        · refine rowS_kept (rowS_kept HNR.out (fun x _ hl => HG4.out.block x hl (fun h => nomatch h))) (fun x hx hl => HG5.out.block x hl (fun h => ?_))
          have hx1 : x = gn := by simpa [ob, Value.ownBlock] using hx
          have hx : some gn = some x := congrArg some hx1.symm
          exact HD.out x x h.symm hx rfl
        · intro q r hq hr
          rcases HV5.out with hv | hv
          · exact HD.out q r (hv ▸ hq) hr
          · rw [hq] at hv; injection hv with hv
            have hr : some gn = some r := hr
            injection hr with hr
            have := HG4.out.size
            omega
      case measure => simp [RowKit.intOf]; omega
    · obtain rfl : k = L.length := by omega
      have HR2 := HR.out
      rw [List.take_length] at HR2
      go_wp2
      go_ret
      exact ⟨_, rfl, HR2, HBR.out⟩
end Go.Proofs.YthcjjekkjbidlaaGreatDoor.St
/-
  Rows of n cells an element: append, a row of one; the rows that a tree's Value is.
-/
namespace Go.Proofs.YthcjjekkjbidlaaGreatDoor.Sr
open Go.RowKit Go.Maps Go.WideMaps Go.Proofs.YthcjjekkjbidlaaGreatDoor.Rf Go.Proofs.YthcjjekkjbidlaaGreatDoor.Nm Go.Proofs.YthcjjekkjbidlaaGreatDoor.St

section
variable {P : Program}
theorem wp_appendN (size : Nat) (hpos : 0 < size) {o : Oper} {a : Act} {w : World} {K : Act → World → Prop} {Q : Exit → Act → World → Prop} (s x : Operand) (t : TypeId) (ho : o.op = .call { callee := .builtin .append, args := #[s, x], argTypes := #[t, t] })
    (base : Nat) (e : TypeId) (i : TypeInfo) (z : Value) (bytes : Nat) (ht : P.underlying t = some (.slice e)) (hi : P.info? e = some i) (hz : i.zero = some z)
    (hsize : i.size = size) (hby : i.bytes = bytes) (hzs : z.cells.size = size) (v : Value) (n : Nat) (xs : List Value) (hs : a.eval s = v) (hown : w.ownsRow base e size v n xs)
    (ad : Addr) (m c : Nat) (cs : List Value) (hxv : a.eval x = .slice (some ad) m c) (hx : ∀ j u, cs[j]? = some u → w.cell? (ad.add j) = some u) (hl : cs.length = m * size) (h1 : ∀ u ∈ cs, u.oneCell' = true) (h63 : n + m ≤ maxLen) (hbytes : (n + m) * bytes ≤ 140737488355328) (hbase : base ≤ w.heap.size)
    (h : ∀ v' w', w'.ownsRow base e size v' (n + m) (xs ++ cs) → w.grownBy w' v.ownBlock → (v'.ownBlock = v.ownBlock ∨ v'.ownBlock = some w.heap.size) → K (a.put o.dst v') w') : o.wp P a w K Q := by
  obtain ⟨v', w', hr, h2, h3, _, h4⟩ := run_append_own_at (P := P) w base t o.type e i z size bytes ht hi hz hsize hby hzs hpos v n xs hown ad m c cs hl hx h1 h63 hbytes hbase
  unfold Oper.wp execOp
  simp only [ho, resolve, invoke, builtin, Sem.run_bind, Sem.run_pure, Result.andThen_ok, List.map_toArray, List.map_cons, List.map_nil, hs, hxv, hr]
  exact h v' w' h2 h3 h4
theorem run_buildOneN (size : Nat) (hp0 : 0 < size) (hp1 : ¬ 16777216 < size) (w : World) (t e : TypeId) (i : TypeInfo) (z : Value) (cs : List Value) (ht : P.underlying t = some (.slice e)) (hi : P.info? e = some i) (hz : i.zero = some z) (hs : i.size = size) (hl : cs.length = size) :
    (Instr.buildSlice t 1 #[(0, .agg cs.toArray)]).run P w = .ok (.slice (some ⟨w.heap.size, 0, none⟩) 1 1) (w.alloc (.cells cs.toArray e)) := by
  simp [Instr.buildSlice, run_underlying ht, sizeOf, typeInfo, hi, hs, zeroValue, hz, Instr.fill, Value.cells, hl]
  rw [if_neg hp1, if_neg (by omega), fold_set cs 0 _ (by simp [hl])]
  simp [newRow, Result.andThen]
theorem wp_oneN (size : Nat) (hp0 : 0 < size) (hp1 : ¬ 16777216 < size) {o : Oper} {a : Act} {w : World} {K : Act → World → Prop} {Q : Exit → Act → World → Prop} (t e : TypeId) (x : Operand) (cs : List Value) (i : TypeInfo) (z : Value) (ho : o.op = .buildSlice t 1 #[(0, x)]) (hx : a.eval x = .agg cs.toArray)
    (ht : P.underlying t = some (.slice e)) (hi : P.info? e = some i) (hz : i.zero = some z) (hs : i.size = size) (hl : cs.length = size)
    (h : K (a.put o.dst (.slice (some ⟨w.heap.size, 0, none⟩) 1 1)) (w.alloc (.cells cs.toArray e))) : o.wp P a w K Q := by
  have hrun := run_buildOneN size hp0 hp1 w t e i z cs ht hi hz hs hl
  unfold Oper.wp
  have hp : (#[(0, x)] : Array (Nat × Operand)).map (fun p => (p.1, a.eval p.2)) = #[(0, .agg cs.toArray)] := by simp [hx]
  simp [execOp, ho, hx, hrun, Result.andThen]
  exact h
end

/-- A node's path. -/
def pathN (n : PN) : List UInt8 := if pathOf n = [] then [47] else pathOf n
/-- The eleven cells of a row of Value. -/
def vcells (e : TE) (xv : Value) : List Value := .string ⟨(pathN e.nm).toArray⟩ :: (e.at_.cells xv ++ [.string ⟨e.data.toArray⟩, .int .u64 (e.ino : Int), .int .i64 e.tick])
def vrows (R : List (TE × Value)) : List Value := R.flatMap fun p => vcells p.1 p.2
theorem vcells_len (e : TE) (xv : Value) : (vcells e xv).length = 11 := rfl
theorem vrows_append (A B : List (TE × Value)) : vrows (A ++ B) = vrows A ++ vrows B := by rw [vrows, List.flatMap_append]; rfl
abbrev VnT : TypeId := 168
def zeroVn : Value := .agg (.string ⟨#[]⟩ :: (zeroA.cells (.slice none 0 0) ++ [.string ⟨#[]⟩, .int .u64 0, .int .i64 0])).toArray
theorem infoVn : (Tryz.prog.info? VnT).map (fun i => (i.zero, i.size, i.bytes)) = some (some zeroVn, 11, 112) := by kernel_rfl
end Go.Proofs.YthcjjekkjbidlaaGreatDoor.Sr
/-
  The sorted names of a folder (and of a node that is none).
-/
namespace Go.Proofs.YthcjjekkjbidlaaGreatDoor.Sr
open Go.RowKit Go.Maps Go.WideMaps Go.Proofs.YthcjjekkjbidlaaGreatDoor.Rf Go.Proofs.YthcjjekkjbidlaaGreatDoor.Nm Go.Proofs.YthcjjekkjbidlaaGreatDoor.St

abbrev MkT : TypeId := 148
theorem kid_names {L : List TE} (hs : SrtT L) (n : PN) {ss : List (List UInt8)} (h : ss.Perm (strKeys (toD ptr (kidsT L n)))) : ss.mergeSort (fun x y => decide (x ≤ y)) = (kidsT L n).map (·.1) := by
  rw [strKeys_toD] at h
  rw [mergeSort_of_perm h]
  refine List.mergeSort_of_pairwise ?_
  rw [List.pairwise_map]
  refine (kidsT_srt hs n).imp (fun {a b} hab => ?_)
  rw [decide_eq_true_iff]
  exact List.le_of_lt (lt_iff.1 hab)
def KeysPost (W : World) (K : List (List UInt8)) (x : Ending) (w' : World) : Prop :=
  ∃ v, x = .returned v ∧ w'.ownsRow W.heap.size 9 1 v K.length (K.map sv) ∧ Below W.heap.size W w'
theorem kids_sorted {B : Nat} {w : World} {r : Nat} {T : Tr} (h : TreeAt B w r T) {e : TE} (he : e ∈ T.L) (hl : (kidsT T.L e.nm).length ≤ 1000000) :
    Calls Tryz.prog 95 #[.func (.func 186) #[] #[.pointer (some ⟨w.heap.size, 0, none⟩)]] (w.alloc (.cells #[mapV e.m] MkT)) (KeysPost (w.alloc (.cells #[mapV e.m] MkT)) ((kidsT T.L e.nm).map (·.1))) := by
  cases hm : e.m with
  | some b =>
    have SK := Tryz.sortedKeysT b 1000000 _ _ w ((h.node e he).kids b hm) (by rw [toD_size]; unfold maxLen; omega) (by rw [toD_size]; omega)
    refine SK.mono ?_
    rintro x w' ⟨v, ss, rfl, hp, ho, _, hb⟩
    have hk := kid_names h.srt e.nm hp
    have hlen : ss.length = (kidsT T.L e.nm).length := by
      have := congrArg List.length hk
      rw [List.length_mergeSort, List.length_map] at this; exact this
    rw [hk, hlen] at ho
    refine ⟨v, rfl, ?_, hb⟩
    rw [List.length_map]
    exact ho
  | none =>
    have hk : kidsT T.L e.nm = [] := by
      rw [List.eq_nil_iff_forall_not_mem]
      intro k hk
      obtain ⟨x, hx, h1, _⟩ := kidsT_mem.1 hk
      obtain ⟨u, hu, h2, h3⟩ := h.par x hx _ _ h1
      rw [srtT_inj h.srt hu he h2] at h3
      exact h3 hm
    rw [hk]
    refine (Tryz.sortedNilT w).mono ?_
    rintro x w' ⟨v, ss, rfl, rfl, ho, _, hb⟩
    rw [List.mergeSort_nil] at ho
    exact ⟨v, rfl, ho, hb⟩
end Go.Proofs.YthcjjekkjbidlaaGreatDoor.Sr
/-
  The contracts of the reference's reader at any bytes: Uint, Take, Text.
-/
namespace Go.Proofs.YthcjjekkjbidlaaGreatDoor.Rd
open Go.RowKit Go.Maps Go.WideMaps Go.Proofs.YthcjjekkjbidlaaGreatDoor.Rf

abbrev RRdT : TypeId := 171
/-- A reader of the reference's: what is left. -/
def RReaderAt (w : World) (q : Nat) (L : List UInt8) : Prop := w.heap[q]? = some (.cells #[.string ⟨L.toArray⟩] RRdT)
end Go.Proofs.YthcjjekkjbidlaaGreatDoor.Rd
/-
  SHA-256 in plain words: the words of a block, its rounds, the sum of bytes.
-/
namespace Go.Proofs.YthcjjekkjbidlaaGreatDoor.Sh

/-- A word, turned right. -/
def rot (n : Nat) (x : Int) : Int := bits .or .u32 (x / 2 ^ n) (x * 2 ^ (32 - n) % 4294967296)
abbrev xor (a b : Int) : Int := bits .xor .u32 a b
abbrev and (a b : Int) : Int := bits .and .u32 a b
abbrev add (a b : Int) : Int := (a + b) % 4294967296
/-- Three turns, joined. -/
def tri (a b c : Nat) (x : Int) : Int := xor (xor (rot a x) (rot b x)) (rot c x)
def sg0 (x : Int) : Int := xor (xor (rot 7 x) (rot 18 x)) (x / 8)
def sg1 (y : Int) : Int := xor (xor (rot 17 y) (rot 19 y)) (y / 1024)
/-- The next word. -/
def nxt (W : List Int) (t : Nat) : Int := add (add (add (sg1 (W.getD (t - 2) 0)) (W.getD (t - 7) 0)) (sg0 (W.getD (t - 15) 0))) (W.getD (t - 16) 0)
/-- Words up to the t-th. -/
def sch (W : List Int) : Nat → List Int
  | 0 => W
  | k + 1 => sch W k ++ [nxt (sch W k) (16 + k)]
/-- Eight words. -/
structure V8 where
  (a b c d e f g h : Int)
deriving DecidableEq
def V8.list (v : V8) : List Int := [v.a, v.b, v.c, v.d, v.e, v.f, v.g, v.h]
def inv (x : Int) : Int := bits .xor .u32 IntKind.u32.max x
def t1 (v : V8) (k x : Int) : Int := (v.h + tri 6 11 25 v.e + xor (and v.e v.f) (and (inv v.e) v.g) + k + x) % 4294967296
def t2 (v : V8) : Int := add (tri 2 13 22 v.a) (xor (xor (and v.a v.b) (and v.a v.c)) (and v.b v.c))
/-- A round. -/
def rnd (v : V8) (k x : Int) : V8 := ⟨add (t1 v k x) (t2 v), v.a, v.b, v.c, add v.d (t1 v k x), v.e, v.f, v.g⟩
def rnds (K W : List Int) (v : V8) : Nat → V8
  | 0 => v
  | t + 1 => rnd (rnds K W v t) (K.getD t 0) (W.getD t 0)
def V8.add (u v : V8) : V8 := ⟨Sh.add u.a v.a, Sh.add u.b v.b, Sh.add u.c v.c, Sh.add u.d v.d, Sh.add u.e v.e, Sh.add u.f v.f, Sh.add u.g v.g, Sh.add u.h v.h⟩
/-- A number of some bytes. -/
def num (B : List UInt8) : Int := B.foldl (fun x b => x * 256 + (b.toNat : Int)) 0
/-- The j-th word of a block. -/
def wrd (B : List UInt8) (j : Nat) : Int := num ((B.drop (4 * j)).take 4)
def wrds (B : List UInt8) : List Int := (List.range 16).map (wrd B)
def K64 : List Int := [0x428a2f98, 0x71374491, 0xb5c0fbcf, 0xe9b5dba5, 0x3956c25b, 0x59f111f1, 0x923f82a4, 0xab1c5ed5,
  0xd807aa98, 0x12835b01, 0x243185be, 0x550c7dc3, 0x72be5d74, 0x80deb1fe, 0x9bdc06a7, 0xc19bf174,
  0xe49b69c1, 0xefbe4786, 0x0fc19dc6, 0x240ca1cc, 0x2de92c6f, 0x4a7484aa, 0x5cb0a9dc, 0x76f988da,
  0x983e5152, 0xa831c66d, 0xb00327c8, 0xbf597fc7, 0xc6e00bf3, 0xd5a79147, 0x06ca6351, 0x14292967,
  0x27b70a85, 0x2e1b2138, 0x4d2c6dfc, 0x53380d13, 0x650a7354, 0x766a0abb, 0x81c2c92e, 0x92722c85,
  0xa2bfe8a1, 0xa81a664b, 0xc24b8b70, 0xc76c51a3, 0xd192e819, 0xd6990624, 0xf40e3585, 0x106aa070,
  0x19a4c116, 0x1e376c08, 0x2748774c, 0x34b0bcb5, 0x391c0cb3, 0x4ed8aa4a, 0x5b9cca4f, 0x682e6ff3,
  0x748f82ee, 0x78a5636f, 0x84c87814, 0x8cc70208, 0x90befffa, 0xa4506ceb, 0xbef9a3f7, 0xc67178f2]
def H0 : V8 := ⟨0x6a09e667, 0xbb67ae85, 0x3c6ef372, 0xa54ff53a, 0x510e527f, 0x9b05688c, 0x1f83d9ab, 0x5be0cd19⟩
/-- What a block makes of the eight words. -/
def blk (h : V8) (B : List UInt8) : V8 := h.add (rnds K64 (sch (wrds B) 48) h 64)
/-- All whole blocks. -/
def run (h : V8) (L : List UInt8) : V8 := if _h : 64 ≤ L.length then run (blk h (L.take 64)) (L.drop 64) else h
termination_by L.length
decreasing_by rw [List.length_drop]; omega
def rest (L : List UInt8) : List UInt8 := L.drop (L.length / 64 * 64)
def be8 (n : Nat) : List UInt8 := (List.range 8).map fun i => UInt8.ofNat (n / 256 ^ (7 - i))
def gap (n : Nat) : Nat := (119 - n % 64) % 64
/-- What stands behind the bytes. -/
def pad (n : Nat) : List UInt8 := 128 :: (List.replicate (gap n) 0 ++ be8 (8 * n))
def byteOf (v : V8) (i : Nat) : UInt8 := UInt8.ofNat ((v.list.getD (i / 4) 0 / 2 ^ (24 - 8 * (i % 4))).toNat)
def bytesOf (v : V8) : List UInt8 := (List.range 32).map (byteOf v)
/-- The sum of bytes. -/
def sum (s : List UInt8) : List UInt8 := bytesOf (run H0 (s ++ pad s.length))

/-! ### bounds -/
def In (x : Int) : Prop := 0 ≤ x ∧ x < 4294967296
theorem In.bits (op : BinOp) (a b : Int) : In (bits op .u32 a b) := by
  have h : ∀ n : Int, In (IntKind.u32.wrap n) := fun n => by rw [IntKind.wrap_u32]; exact ⟨by omega, by omega⟩
  exact h _
theorem In.wrap (n : Int) : In (IntKind.u32.wrap n) := by rw [IntKind.wrap_u32]; exact ⟨by omega, by omega⟩
theorem In.mod (n : Int) : In (n % 4294967296) := ⟨by omega, by omega⟩
theorem In.add (a b : Int) : In (add a b) := In.mod _
theorem In.xor (a b : Int) : In (xor a b) := In.bits _ _ _
theorem In.rot (n : Nat) (x : Int) : In (rot n x) := In.bits _ _ _
theorem In.tri (a b c : Nat) (x : Int) : In (tri a b c x) := In.xor _ _
theorem In.sg0 (x : Int) : In (sg0 x) := In.xor _ _
theorem In.sg1 (x : Int) : In (sg1 x) := In.xor _ _
theorem In.nxt (W : List Int) (t : Nat) : In (nxt W t) := In.mod _
structure V8.In (v : V8) : Prop where
  (a : Sh.In v.a) (b : Sh.In v.b) (c : Sh.In v.c) (d : Sh.In v.d) (e : Sh.In v.e) (f : Sh.In v.f) (g : Sh.In v.g) (h : Sh.In v.h)
theorem add_in (u v : V8) : (u.add v).In := ⟨In.add _ _, In.add _ _, In.add _ _, In.add _ _, In.add _ _, In.add _ _, In.add _ _, In.add _ _⟩
theorem blk_in (h : V8) (B : List UInt8) : (blk h B).In := add_in _ _
theorem H0_in : H0.In := by constructor <;> exact ⟨by decide, by decide⟩
theorem sch_length (W : List Int) (k : Nat) : (sch W k).length = W.length + k := by
  induction k with
  | zero => rfl
  | succ k ih => rw [sch, List.length_append, ih]; rfl
theorem num_snoc (A : List UInt8) (b : UInt8) : num (A ++ [b]) = num A * 256 + (b.toNat : Int) := by simp [num, List.foldl_append]
theorem num_go : ∀ (A : List UInt8) (x : Int) (n : Nat), 0 ≤ x → x < 256 ^ n → 0 ≤ A.foldl (fun x b => x * 256 + (b.toNat : Int)) x ∧ A.foldl (fun x b => x * 256 + (b.toNat : Int)) x < 256 ^ (n + A.length)
  | [], x, n, h0, h1 => ⟨h0, h1⟩
  | b :: A, x, n, h0, h1 => by
    have hb := UInt8.toNat_lt b
    have := num_go A (x * 256 + (b.toNat : Int)) (n + 1) (by omega) (by rw [Int.pow_succ]; omega)
    rw [List.foldl_cons, List.length_cons, ← Nat.add_assoc, Nat.add_right_comm]
    exact this
theorem num_in (A : List UInt8) : 0 ≤ num A ∧ num A < 256 ^ A.length := by
  have := num_go A 0 0 (by decide) (by decide)
  rwa [Nat.zero_add] at this
theorem wrds_length (B : List UInt8) : (wrds B).length = 16 := by simp [wrds]

/-! ### the bits of a word -/
theorem wraps_u32 (n : Int) (h₀ : 0 ≤ n) (h₁ : n < 2 ^ 32) : IntKind.u32.wrap n = n := by rw [IntKind.wrap_u32]; omega
theorem or_comm (a b : Int) : bits .or .u32 a b = bits .or .u32 b a := by
  show IntKind.u32.wrap ((BitVec.ofInt 32 a ||| BitVec.ofInt 32 b).toNat : Int) = IntKind.u32.wrap ((BitVec.ofInt 32 b ||| BitVec.ofInt 32 a).toNat : Int)
  rw [BitVec.or_comm]
theorem or_byte (x b : Int) (hx0 : 0 ≤ x) (hx : x < 16777216) (hb0 : 0 ≤ b) (hb : b < 256) : bits .or .u32 (x * 256) b = x * 256 + b :=
  bits_join .u32 32 (by decide) wraps_u32 8 (x * 256) b (by omega) (by omega) (by omega) hb0 (by omega) (by omega)
theorem or_join (i : Nat) (x y : Int) (hx0 : 0 ≤ x) (hxi : x % 2 ^ i = 0) (hx : x < 4294967296) (hy0 : 0 ≤ y) (hy : y < 2 ^ i) (hy1 : y < 4294967296) : bits .or .u32 x y = x + y :=
  bits_join .u32 32 (by decide) wraps_u32 i x y hx0 hxi hx hy0 hy hy1

/-! ### blocks one behind the other -/
theorem run_lt {h : V8} {L : List UInt8} (hl : L.length < 64) : run h L = h := by rw [run, dif_neg (by omega)]
theorem run_ge {h : V8} {L : List UInt8} (hl : 64 ≤ L.length) : run h L = run (blk h (L.take 64)) (L.drop 64) := by rw [run, dif_pos hl]
theorem rest_lt {L : List UInt8} (hl : L.length < 64) : rest L = L := by
  rw [rest, Nat.div_eq_of_lt hl]; rfl
theorem rest_ge {L : List UInt8} (hl : 64 ≤ L.length) : rest L = rest (L.drop 64) := by
  rw [rest, rest, List.drop_drop, List.length_drop]
  congr 1
  omega
theorem rest_length (L : List UInt8) : (rest L).length = L.length % 64 := by
  rw [rest, List.length_drop]; omega
theorem run_in {h : V8} (hh : h.In) : ∀ (n : Nat) (L : List UInt8), L.length ≤ n → (run h L).In := by
  intro n
  induction n generalizing h with
  | zero => intro L hl; rw [run_lt (by omega)]; exact hh
  | succ n ih =>
    intro L hl
    by_cases h64 : 64 ≤ L.length
    · rw [run_ge h64]; exact ih (blk_in _ _) _ (by rw [List.length_drop]; omega)
    · rw [run_lt (by omega)]; exact hh
theorem run_append (B : List UInt8) : ∀ (n : Nat) (h : V8) (A : List UInt8), A.length ≤ n → run h (A ++ B) = run (run h A) (rest A ++ B) := by
  intro n
  induction n with
  | zero => intro h A hl; rw [run_lt (L := A) (by omega), rest_lt (by omega)]
  | succ n ih =>
    intro h A hl
    by_cases h64 : 64 ≤ A.length
    · rw [run_ge h64, rest_ge h64, run_ge (by rw [List.length_append]; omega), List.take_append_of_le_length h64, List.drop_append_of_le_length h64]
      exact ih _ _ (by rw [List.length_drop]; omega)
    · rw [run_lt (L := A) (by omega), rest_lt (by omega)]
theorem sum_split (s : List UInt8) : sum s = bytesOf (run (run H0 s) (rest s ++ pad s.length)) := by rw [sum, run_append _ s.length H0 s (Nat.le_refl _)]
theorem sum_length (s : List UInt8) : (sum s).length = 32 := by simp [sum, bytesOf]
end Go.Proofs.YthcjjekkjbidlaaGreatDoor.Sh
/-
  The contracts of a word's turns: the program's and the reference's.
-/
namespace Go.Proofs.YthcjjekkjbidlaaGreatDoor.Sh
open Go.RowKit

theorem wraps_u64 (n : Int) (h₀ : 0 ≤ n) (h₁ : n < 2 ^ 64) : IntKind.u64.wrap n = n := by rw [IntKind.wrap_u64]; omega
theorem turn_n (a : Nat) (h1 : 1 ≤ a) (h2 : a ≤ 31) : bits .and .u64 (IntKind.u64.wrap (-(a : Int))) 31 = ((32 - a : Nat) : Int) := by
  have := bits_mask .u64 64 (by decide) wraps_u64 5 (by decide) (IntKind.u64.wrap (-(a : Int))) (by rw [IntKind.wrap_u64]; omega) (by rw [IntKind.wrap_u64]; omega)
  rw [show ((2 : Int) ^ 5 - 1) = 31 from rfl] at this
  rw [this, IntKind.wrap_u64]
  omega

set_option maxRecDepth 100000 in
theorem rotl_any (w : World) (x : Int) (a : Nat) (h1 : 1 ≤ a) (h2 : a ≤ 31) :
    Calls Tryz.prog 194 #[.int .u32 x, .int .i64 (-(a : Int))] w fun e w' => e = .returned (.int .u32 (rot a x)) ∧ w' = w := by
  have HT := turn_n a h1 h2
  have hb : (0 : Int) ≤ 32 - (a : Int) := by omega
  go_enter Tryz.func194, Tryz.ntmps194
  go_wp2
  go_ret
  rw [rot, or_comm, show 32 - (32 - a) = a by omega]
  exact ⟨rfl, rfl⟩
set_option maxRecDepth 100000 in
theorem turn_any (w : World) (x : Int) (a : Nat) (h1 : 1 ≤ a) (h2 : a ≤ 31) :
    Calls Tryz.prog 162 #[.int .u32 x, .int .i64 (a : Int)] w fun e w' => e = .returned (.int .u32 (rot a x)) ∧ ∃ n, w' = w.drewN n := by
  have hb : (0 : Int) ≤ 32 - (a : Int) := by omega
  go_enter Tryz.func162, Tryz.ntmps162
  go_wp2
  go_quiet (fail)
  go_wp2
  go_ret
  exact ⟨rfl, nq, rfl⟩
set_option maxRecDepth 100000 in
/-- Three turns, joined. -/
theorem tri_any (w : World) (x : Int) (a b c : Nat) (ha : 1 ≤ a ∧ a ≤ 31) (hb : 1 ≤ b ∧ b ≤ 31) (hc : 1 ≤ c ∧ c ≤ 31) :
    Calls Tryz.prog 193 #[.int .u32 x, .int .i64 (a : Int), .int .i64 (b : Int), .int .i64 (c : Int)] w fun e w' => e = .returned (.int .u32 (tri a b c x)) ∧ w' = w := by
  have R1 := Lib.hid (rotl_any w x a ha.1 ha.2)
  have R2 := Lib.hid (rotl_any w x b hb.1 hb.2)
  have R3 := Lib.hid (rotl_any w x c hc.1 hc.2)
  have n1 : IntKind.i64.wrap (-(a : Int)) = -(a : Int) := by rw [IntKind.wrap_i64]; omega
  have n2 : IntKind.i64.wrap (-(b : Int)) = -(b : Int) := by rw [IntKind.wrap_i64]; omega
  have n3 : IntKind.i64.wrap (-(c : Int)) = -(c : Int) := by rw [IntKind.wrap_i64]; omega
  go_enter Tryz.func193, Tryz.ntmps193
  go_wp2_with fail
  refine R1.out.mono ?_
  rintro e w' ⟨rfl, rfl⟩
  go_wp2_with fail
  refine R2.out.mono ?_
  rintro e w' ⟨rfl, rfl⟩
  go_wp2_with fail
  refine R3.out.mono ?_
  rintro e w' ⟨rfl, rfl⟩
  go_wp2
  go_ret
  exact ⟨rfl, rfl⟩
theorem turn_lit (w : World) (x : Int) (n : Int) (a : Nat) (h : n = (a : Int)) (h1 : 1 ≤ a) (h2 : a ≤ 31) :
    Calls Tryz.prog 162 #[.int .u32 x, .int .i64 n] w fun e w' => e = .returned (.int .u32 (rot a x)) ∧ ∃ n, w' = w.drewN n := by
  subst h; exact turn_any w x a h1 h2
end Go.Proofs.YthcjjekkjbidlaaGreatDoor.Sh
