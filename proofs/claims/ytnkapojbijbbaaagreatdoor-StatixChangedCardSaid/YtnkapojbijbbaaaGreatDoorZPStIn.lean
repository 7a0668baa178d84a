import Derived.Test.YtnkapojbijbbaaaGreatDoorZPStId
import Derived.Test.YtnkapojbijbbaaaGreatDoorZPSrSort
import Derived.Test.YtnkapojbijbbaaaGreatDoorZPSrHapp
import Derived.Test.YtnkapojbijbbaaaGreatDoorZPSrXdel
import Derived.Test.YtnkapojbijbbaaaGreatDoorZPSrNew
import Derived.Test.YtnkapojbijbbaaaGreatDoorZPNmSplitCore
import Derived.Test.YtnkapojbijbbaaaGreatDoorZPSrRead
import Derived.Test.YtnkapojbijbbaaaGreatDoorZPSrMove
import Derived.Test.YtnkapojbijbbaaaGreatDoorZPSrValue
set_option linter.unusedSimpArgs false
set_option linter.unusedVariables false
namespace Go.Proofs.YtnkapojbijbbaaaGreatDoor.St
open Go.RowKit Go.Maps Go.WideMaps Rf Rd
structure It where
 path : List UInt8
 node : UInt8
 size : Int
 ino : Nat
 tick : Int
 kind : UInt8
 idt : List UInt8
instance : Inhabited It := ⟨⟨[], 0, 0, 0, 0, 0, []⟩⟩
structure It.Fits (x : It) : Prop where
 path : x.path.length ≤ 140737488355328
 size : -9223372036854775808 ≤ x.size ∧ x.size < 9223372036854775808
 ino : x.ino < 18446744073709551616
 tick : -9223372036854775808 ≤ x.tick ∧ x.tick < 9223372036854775808
 idt : x.idt.length ≤ 140737488355328
def It.cells (x : It) : List Value := [.string ⟨x.path.toArray⟩, .int .u8 (x.node.toNat : Int), .int .i64 x.size, .int .u64 (x.ino : Int), .int .i64 x.tick, .int .u8 (x.kind.toNat : Int), .string ⟨x.idt.toArray⟩]
theorem built_en32 (p : ByteArray) (n s i t k : Int) (b0 b1 b2 b3 b4 b5 b6 b7 b8 b9 b10 b11 b12 b13 b14 b15 b16 b17 b18 b19 b20 b21 b22 b23 b24 b25 b26 b27 b28 b29 b30 b31 : UInt8) :
 Tryz.prog.built 52 [(0, .string p), (1, .agg #[.int .u8 n, .int .i64 s, .int .u64 i, .int .i64 t]), (2, .int .u8 k), (3, .agg (Lib.byteCells [b0, b1, b2, b3, b4, b5, b6, b7, b8, b9, b10, b11, b12, b13, b14, b15, b16, b17, b18, b19, b20, b21, b22, b23, b24, b25, b26, b27, b28, b29, b30, b31]).toArray)] = some (.string p :: .int .u8 n :: .int .i64 s :: .int .u64 i :: .int .i64 t :: .int .u8 k :: Lib.byteCells [b0, b1, b2, b3, b4, b5, b6, b7, b8, b9, b10, b11, b12, b13, b14, b15, b16, b17, b18, b19, b20, b21, b22, b23, b24, b25, b26, b27, b28, b29, b30, b31]).toArray := by kernel_rfl
theorem built_en (p : ByteArray) (n s i t k : Int) (l : List UInt8) (hl : l.length = 32) :
 Tryz.prog.built 52 [(0, .string p), (1, .agg #[.int .u8 n, .int .i64 s, .int .u64 i, .int .i64 t]), (2, .int .u8 k), (3, .agg (Lib.byteCells l).toArray)] = some (.string p :: .int .u8 n :: .int .i64 s :: .int .u64 i :: .int .i64 t :: .int .u8 k :: Lib.byteCells l).toArray :=
 match l, hl with
 | [b0, b1, b2, b3, b4, b5, b6, b7, b8, b9, b10, b11, b12, b13, b14, b15, b16, b17, b18, b19, b20, b21, b22, b23, b24, b25, b26, b27, b28, b29, b30, b31], _ => built_en32 p n s i t k b0 b1 b2 b3 b4 b5 b6 b7 b8 b9 b10 b11 b12 b13 b14 b15 b16 b17 b18 b19 b20 b21 b22 b23 b24 b25 b26 b27 b28 b29 b30 b31
theorem exec_ben {o : Oper} {a : Act} {w : World} {x0 x1 x2 x3 : Operand} (p : ByteArray) (n s i t k : Int) (l : List UInt8) (hl : l.length = 32) (ho : o.op = .build 52 #[(0, x0), (1, x1), (2, x2), (3, x3)])
 (h0 : a.eval x0 = .string p) (h1 : a.eval x1 = .agg #[.int .u8 n, .int .i64 s, .int .u64 i, .int .i64 t]) (h2 : a.eval x2 = .int .u8 k) (h3 : a.eval x3 = .agg (Lib.byteCells l).toArray) :
 (execOp a.eval o).run Tryz.prog w = .ok (.value (.agg (.string p :: .int .u8 n :: .int .i64 s :: .int .u64 i :: .int .i64 t :: .int .u8 k :: Lib.byteCells l).toArray)) w := by
 have hb := run_build (P := Tryz.prog) w 52 #[(0, .string p), (1, .agg #[.int .u8 n, .int .i64 s, .int .u64 i, .int .i64 t]), (2, .int .u8 k), (3, .agg (Lib.byteCells l).toArray)] _ (built_en p n s i t k l hl)
 unfold execOp
 simp only [ho, List.map_toArray, List.map_cons, List.map_nil, h0, h1, h2, h3, Sem.run_bind, hb, Result.andThen_ok]
 rfl
theorem built_en32R (p : ByteArray) (n s i t k : Int) (b0 b1 b2 b3 b4 b5 b6 b7 b8 b9 b10 b11 b12 b13 b14 b15 b16 b17 b18 b19 b20 b21 b22 b23 b24 b25 b26 b27 b28 b29 b30 b31 : UInt8) :
 Tryz.prog.built 55 [(0, .string p), (1, .agg #[.int .u8 n, .int .i64 s, .int .u64 i, .int .i64 t]), (2, .int .u8 k), (3, .agg (Lib.byteCells [b0, b1, b2, b3, b4, b5, b6, b7, b8, b9, b10, b11, b12, b13, b14, b15, b16, b17, b18, b19, b20, b21, b22, b23, b24, b25, b26, b27, b28, b29, b30, b31]).toArray)] = some (.string p :: .int .u8 n :: .int .i64 s :: .int .u64 i :: .int .i64 t :: .int .u8 k :: Lib.byteCells [b0, b1, b2, b3, b4, b5, b6, b7, b8, b9, b10, b11, b12, b13, b14, b15, b16, b17, b18, b19, b20, b21, b22, b23, b24, b25, b26, b27, b28, b29, b30, b31]).toArray := by kernel_rfl
theorem built_enR (p : ByteArray) (n s i t k : Int) (l : List UInt8) (hl : l.length = 32) :
 Tryz.prog.built 55 [(0, .string p), (1, .agg #[.int .u8 n, .int .i64 s, .int .u64 i, .int .i64 t]), (2, .int .u8 k), (3, .agg (Lib.byteCells l).toArray)] = some (.string p :: .int .u8 n :: .int .i64 s :: .int .u64 i :: .int .i64 t :: .int .u8 k :: Lib.byteCells l).toArray :=
 match l, hl with
 | [b0, b1, b2, b3, b4, b5, b6, b7, b8, b9, b10, b11, b12, b13, b14, b15, b16, b17, b18, b19, b20, b21, b22, b23, b24, b25, b26, b27, b28, b29, b30, b31], _ => built_en32R p n s i t k b0 b1 b2 b3 b4 b5 b6 b7 b8 b9 b10 b11 b12 b13 b14 b15 b16 b17 b18 b19 b20 b21 b22 b23 b24 b25 b26 b27 b28 b29 b30 b31
theorem exec_benR {o : Oper} {a : Act} {w : World} {x0 x1 x2 x3 : Operand} (p : ByteArray) (n s i t k : Int) (l : List UInt8) (hl : l.length = 32) (ho : o.op = .build 55 #[(0, x0), (1, x1), (2, x2), (3, x3)])
 (h0 : a.eval x0 = .string p) (h1 : a.eval x1 = .agg #[.int .u8 n, .int .i64 s, .int .u64 i, .int .i64 t]) (h2 : a.eval x2 = .int .u8 k) (h3 : a.eval x3 = .agg (Lib.byteCells l).toArray) :
 (execOp a.eval o).run Tryz.prog w = .ok (.value (.agg (.string p :: .int .u8 n :: .int .i64 s :: .int .u64 i :: .int .i64 t :: .int .u8 k :: Lib.byteCells l).toArray)) w := by
 have hb := run_build (P := Tryz.prog) w 55 #[(0, .string p), (1, .agg #[.int .u8 n, .int .i64 s, .int .u64 i, .int .i64 t]), (2, .int .u8 k), (3, .agg (Lib.byteCells l).toArray)] _ (built_enR p n s i t k l hl)
 unfold execOp
 simp only [ho, List.map_toArray, List.map_cons, List.map_nil, h0, h1, h2, h3, Sem.run_bind, hb, Result.andThen_ok]
 rfl
end Go.Proofs.YtnkapojbijbbaaaGreatDoor.St
namespace Go.Proofs.YtnkapojbijbbaaaGreatDoor.Sr
open Go.RowKit Go.Maps Go.WideMaps Rf Go.Proofs.YtnkapojbijbbaaaGreatDoor.Nm St
def asLink (t : List UInt8) (A : XA) : XA := { A with node := 3, target := t }
end Go.Proofs.YtnkapojbijbbaaaGreatDoor.Sr
namespace Go.Proofs.YtnkapojbijbbaaaGreatDoor.Sr
open Go.RowKit Go.Maps Go.WideMaps Rf Go.Proofs.YtnkapojbijbbaaaGreatDoor.Nm St
structure Stp where
 kind : Int
 who : Int
 path : List UInt8
 more : List UInt8
 A : XA
 v : Value
def Stp.cells (x : Stp) : List Value := .int .i64 x.kind :: .int .i64 x.who :: .string ⟨x.path.toArray⟩ :: .string ⟨x.more.toArray⟩ :: x.A.cells x.v
structure Stp.Fits (w : World) (x : Stp) : Prop where
 path : x.path.length ≤ 140737488351232
 more : x.more.length ≤ 140737488351232
 target : x.A.target.length ≤ 140737488351232
 xs : XsAt w x.v x.A.xs
 xl : x.A.xs.length * 32 ≤ 140737488351232
def runE (x : Stp) (T : Tr) : Int :=
 if x.kind = 0 then addE x.path [] (asFold x.A) T
 else if x.kind = 1 then addE x.path x.more (asFile x.A) T
 else if x.kind = 2 then addE x.path [] (asLink x.more x.A) T
 else if x.kind = 3 then writeE x.path x.more T
 else if x.kind = 4 then attrE x.path x.A T
 else if x.kind = 5 then xattrE x.path x.A.target x.more T
 else if x.kind = 6 then clearE x.path x.A.target T
 else if x.kind = 7 then moveE x.path x.more T
 else if x.kind = 8 then dropE x.path T
 else if x.kind = 9 then readE x.path T.L
 else 0
def AddIs (p d : List UInt8) (A : XA) (T T' : Tr) : Prop :=
 ∃ n u, u ∈ T.L ∧ u.nm = (splitL p).dropLast ∧ n.nm = splitL p ∧ n.ino = T.most + 1 ∧ n.at_ = A ∧ n.data = d ∧ n.tick = 0 ∧ T' = { T with clock := T.clock + 1, most := T.most + 1, L := tickT [n.p, u.p] ((T.clock + 1 : Nat) : Int) (insT n T.L) }
def SetIs (p : List UInt8) (f : TE → XA) (T T' : Tr) : Prop :=
 ∃ n xv, getT (splitL p) T.L = some n ∧ T' = { T with clock := T.clock + 1, L := tickT [n.p] ((T.clock + 1 : Nat) : Int) (updT { n with at_ := f n, xv := xv } T.L) }
def RunIs (x : Stp) (T T' : Tr) : Prop :=
 if runE x T ≠ 0 then T' = T
 else if x.kind = 0 then AddIs x.path [] (asFold x.A) T T'
 else if x.kind = 1 then AddIs x.path x.more (asFile x.A) T T'
 else if x.kind = 2 then AddIs x.path [] (asLink x.more x.A) T T'
 else if x.kind = 3 then T' = writeT x.path x.more T
 else if x.kind = 4 then SetIs x.path (fun n => asOf x.A n) T T'
 else if x.kind = 5 then SetIs x.path (fun n => xattrA x.A.target x.more n.at_) T T'
 else if x.kind = 6 then SetIs x.path (fun n => clearA x.A.target n.at_) T T'
 else if x.kind = 7 then T' = moveTr x.path x.more T
 else if x.kind = 8 then T' = dropTr x.path T
 else if x.kind = 9 then T' = { T with reads := T.reads + 1 }
 else T' = T
def RunP (B : Nat) (w : World) (r : Nat) (T : Tr) (x : Stp) (e : Ending) (w' : World) : Prop :=
 e = .returned (.int .i64 (runE x T)) ∧ ∃ T', TreeAt B w' r T' ∧ Turn (r :: ownL T.L) w w' ∧ (∀ b ∈ ownL T'.L ++ xobL T'.L, b ∈ ownL T.L ++ xobL T.L ∨ w.heap.size ≤ b) ∧ ChT T { T' with reads := T.reads } ∧ RunIs x T T'
end Go.Proofs.YtnkapojbijbbaaaGreatDoor.Sr
namespace Go.Proofs.YtnkapojbijbbaaaGreatDoor.Sr
open Go.RowKit Go.Maps Go.WideMaps Rf Go.Proofs.YtnkapojbijbbaaaGreatDoor.Nm St
theorem enc_no47 (r : Nat) (hg : goodRune r = true) (h : r ≠ 47) : ∀ c ∈ enc r, c ≠ 47 := by
 have hg' := hg
 simp only [goodRune, Bool.or_eq_true, Bool.and_eq_true, decide_eq_true_eq] at hg'
 have key : ∀ n, n < 256 → n ≠ 47 → UInt8.ofNat n ≠ 47 := fun n h1 h2 e => by
  have := congrArg UInt8.toNat e
  rw [byte_ofNat h1] at this; exact h2 this
 by_cases a1 : r < 128
 · rw [enc_1 a1]; intro c hc; simp only [List.mem_singleton] at hc; subst hc; exact key _ (by omega) h
 by_cases a2 : r < 2048
 · rw [enc_2 a1 a2]; intro c hc; simp only [List.mem_cons, List.not_mem_nil, or_false] at hc
   rcases hc with rfl | rfl <;> exact key _ (by omega) (by omega)
 by_cases a3 : r < 65536
 · rw [enc_3 hg a2 a3]; intro c hc; simp only [List.mem_cons, List.not_mem_nil, or_false] at hc
   rcases hc with rfl | rfl | rfl <;> exact key _ (by omega) (by omega)
 · rw [enc_4 hg a3]; intro c hc; simp only [List.mem_cons, List.not_mem_nil, or_false] at hc
   rcases hc with rfl | rfl | rfl | rfl <;> exact key _ (by omega) (by omega)
theorem fine_slash {a : List UInt8} (hok : okB a = true) (h : runesFine a = true) : (47 : UInt8) ∉ a := by
 intro hc
 obtain ⟨h1, h2⟩ := encs_runes a hok
 rw [← h1, encs, List.mem_flatMap] at hc
 obtain ⟨r, hr, hc⟩ := hc
 have hf : fine r = true := by
  obtain ⟨q, hq, rfl⟩ := List.mem_map.1 hr
  exact List.all_eq_true.1 h q hq
 have h47 : r ≠ 47 := by
  rintro rfl
  cases hf
 exact enc_no47 r (h2 r hr) h47 47 hc rfl
theorem chk_slash {a : List UInt8} (h : chk a = true) : ∀ c ∈ a, c ≠ 47 := by
 intro c hc h47
 subst h47
 simp only [chk, Bool.and_eq_true, lenFine] at h
 have h2 := h.2
 have hok : okB a = true := h.1.1.1.1.1.1
 exact absurd hc (fine_slash hok h2)
theorem parts_path : ∀ {n : PN}, n ≠ [] → (∀ s ∈ n, chk s = true) → parts ((pathOf n).drop 1) = n
 | [], h, _ => absurd rfl h
 | [a], _, h => by
   have h1 := chk_slash (h a (by simp))
   rw [pathOf, List.flatMap_cons, List.flatMap_nil, List.append_nil, List.drop_succ_cons, List.drop_zero]
   exact parts_none a h1
 | a :: b :: r, _, h => by
   have h1 := chk_slash (h a (by simp))
   have ih := parts_path (n := b :: r) (by simp) (fun s hs => h s (List.mem_cons_of_mem _ hs))
   have e : (pathOf (a :: b :: r)).drop 1 = a ++ 47 :: ((pathOf (b :: r)).drop 1) := by
    simp [pathOf, List.flatMap_cons]
   rw [e, parts_hit _ _ h1, ih]
theorem path_count : ∀ {n : PN}, (∀ s ∈ n, chk s = true) → (pathOf n).count 47 = n.length
 | [], _ => rfl
 | a :: r, h => by
   have h1 := chk_slash (h a (by simp))
   have ih := path_count (n := r) (fun s hs => h s (List.mem_cons_of_mem _ hs))
   rw [pathOf] at ih ⊢
   rw [List.flatMap_cons, List.count_append, List.count_cons_self, ih, List.count_eq_zero.2 (fun hc => h1 47 hc rfl), List.length_cons]
   omega
theorem split_path {n : PN} (hl : n.length ≤ 16) (h : ∀ s ∈ n, chk s = true) : splitP (pathN n) = some n := by
 cases n with
 | nil => rfl
 | cons a r =>
   have hne : pathOf (a :: r) ≠ [] := by simp [pathOf, List.flatMap_cons]
   rw [pathN, if_neg hne]
   have h47 : pathOf (a :: r) ≠ [47] := by
    have ha := (chk_le (h a (by simp))).2
    intro he
    rw [pathOf, List.flatMap_cons] at he
    simp at he
    exact ha he.1
   rw [splitP, if_neg h47, if_pos]
   · rw [parts_path (by simp) h]
   · rw [parts_path (by simp) h, path_count h]
     simp only [Bool.and_eq_true, decide_eq_true_eq]
     refine ⟨⟨(hasPrefix_one _).2 ⟨a ++ pathOf r, by simp [pathOf, List.flatMap_cons]⟩, hl⟩, List.all_eq_true.2 h⟩
theorem Good.split {k : Nat} {T : Tr} (h : Good k T) {e : TE} (he : e ∈ T.L) : splitE (pathN e.nm) = 0 ∧ splitL (pathN e.nm) = e.nm := by
 have := split_path (h.deep e he) (h.names e he)
 rw [splitE, splitL, this]; exact ⟨rfl, rfl⟩
structure HonRel (T : Tr) (X : List SE) (D : MV (List UInt8)) (K : MV (Nat × Int)) : Prop where
 srt : Srt X
 keyD : ∀ p, (getM D p).isSome = (getL p X).isSome
 ent : ∀ e ∈ X, ∃ b, getM D e.path = some b ∧ getM K e.path = some (e.ino, e.tick) ∧ e.node = 1 ∧ e.size = (b.length : Int) ∧ e.ino ≤ T.most ∧ e.tick ≤ (T.clock : Int) ∧ ∀ x ∈ T.L, x.ino = e.ino → x.tick = e.tick → x.data = b ∧ x.at_.node = 1
theorem HonRel.hist {T T' : Tr} {X : List SE} {D : MV (List UInt8)} {K : MV (Nat × Int)} (h : HonRel T X D K) (hh : Hist T T') : HonRel T' X D K := by
 refine ⟨h.srt, h.keyD, fun e he => ?_⟩
 obtain ⟨b, h1, h2, h3, h4, h5, h6, h7⟩ := h.ent e he
 refine ⟨b, h1, h2, h3, h4, Nat.le_trans h5 hh.most, Int.le_trans h6 (by have := hh.clock; omega), fun x' hx' hi ht => ?_⟩
 rcases hh.node x' hx' with ⟨x, hx, e1, e2, e3, e4⟩ | ⟨e1, _⟩
 · have := h7 x hx (by rw [← e1, hi]) (by rw [← e4, ht])
   rw [e2, e3]; exact this
 · rw [e1] at ht; omega
theorem HonRel.nil (T : Tr) : HonRel T [] [] [] := ⟨List.Pairwise.nil, fun _ => rfl, fun _ h => by cases h⟩
end Go.Proofs.YtnkapojbijbbaaaGreatDoor.Sr
namespace Go.Proofs.YtnkapojbijbbaaaGreatDoor.Sr
open Go.RowKit Go.Maps Go.WideMaps Rf Go.Proofs.YtnkapojbijbbaaaGreatDoor.Nm St
theorem tickT_map (c : Int) : ∀ (qs : List Nat) (L : List TE), tickT qs c L = L.map fun x => if x.p ∈ qs then { x with tick := c } else x
 | [], L => by
   show L = _
   simp
 | q :: r, L => by
   show tickT r c (tick1 q c L) = _
   rw [tickT_map c r, tick1, List.map_map]
   refine List.map_congr_left (fun x _ => ?_)
   show (if (if x.p = q then ({ x with tick := c } : TE) else x).p ∈ r then _ else _) = _
   by_cases h : x.p = q
   · simp [h]
   · simp [h]
theorem kids_tickT (c : Int) (qs : List Nat) (L : List TE) (n : PN) : kidsT (tickT qs c L) n = kidsT L n := by
 rw [tickT_map]
 refine kidsT_map (fun e _ => ?_) (fun e _ => ?_) n <;> (split <;> rfl)
def Was (T T' : Tr) : Prop :=
 ∀ x' ∈ T'.L, (∃ x ∈ T.L, x'.ino = x.ino ∧ x'.data = x.data ∧ x'.at_ = x.at_ ∧ x'.tick = x.tick ∧ kidsT T'.L x'.nm = kidsT T.L x.nm) ∨
   (x'.tick = ((T.clock + 1 : Nat) : Int) ∧ T'.clock = T.clock + 1 ∧ ((∃ x ∈ T.L, x'.ino = x.ino) ∨ x'.ino = T.most + 1))
theorem ChT.was {B : Nat} {w : World} {r : Nat} {T T' : Tr} (hT : TreeAt B w r T) (h : ChT T T') : Was T T' := by
 intro x' hx'
 cases h with
 | same => exact .inl ⟨x', hx', rfl, rfl, rfl, rfl, rfl⟩
 | add n u hu hun hno hi ht hc hd ha hnm =>
   have hk := kids_tickT ((T.clock + 1 : Nat) : Int) [n.p, u.p] (insT n T.L)
   have hx2 : x' ∈ tickT [n.p, u.p] ((T.clock + 1 : Nat) : Int) (insT n T.L) := hx'
   show (∃ x ∈ T.L, _ ∧ _ ∧ _ ∧ _ ∧ kidsT (tickT [n.p, u.p] _ (insT n T.L)) x'.nm = _) ∨ _
   rw [hk]
   rw [tickT_map] at hx2
   obtain ⟨y, hy, rfl⟩ := List.mem_map.1 hx2
   by_cases hq : y.p ∈ [n.p, u.p]
   · rw [if_pos hq]
     refine .inr ⟨rfl, rfl, ?_⟩
     rcases mem_insT.1 hy with rfl | hy
     · exact .inr hi
     · exact .inl ⟨y, hy, rfl⟩
   · rw [if_neg hq]
     have hyT : y ∈ T.L := by
      rcases mem_insT.1 hy with rfl | hy
      · exact absurd (by simp) hq
      · exact hy
     refine .inl ⟨y, hyT, rfl, rfl, rfl, rfl, kids_put_other (fun s hs => ?_)⟩
     have hyu : y.nm = u.nm := by rw [hun.2, hs]; simp
     have := srtT_inj hT.srt hyT hu hyu
     exact hq (by rw [this]; simp)
 | upd n n' hn hs hc hd ha =>
   have hinj : ∀ x ∈ T.L, x.p = n.p → x = n := fun x hx hxp => hT.p_inj hx hn hxp
   have hf := updT_facts (e' := n') hinj hs.1 hs.2.2.1 hs.2.2.2.1
   have hk : ∀ m, kidsT (tickT [n.p] ((T.clock + 1 : Nat) : Int) (updT n' T.L)) m = kidsT T.L m := fun m => by
    rw [kids_tickT, updT]
    exact kidsT_map (fun e he => (hf e he).1) (fun e he => (hf e he).2.1) m
   have hx2 : x' ∈ tickT [n.p] ((T.clock + 1 : Nat) : Int) (updT n' T.L) := hx'
   show (∃ x ∈ T.L, _ ∧ _ ∧ _ ∧ _ ∧ kidsT (tickT [n.p] _ (updT n' T.L)) x'.nm = _) ∨ _
   rw [hk]
   rw [tickT_map] at hx2
   obtain ⟨y, hy, rfl⟩ := List.mem_map.1 hx2
   obtain ⟨x, hx, rfl⟩ := List.mem_map.1 hy
   by_cases hp : x.p = n'.p
   · rw [if_pos hp, if_pos (by rw [hs.2.2.1]; simp)]
     exact .inr ⟨rfl, rfl, .inl ⟨n, hn, hs.2.1⟩⟩
   · rw [if_neg hp, if_neg (by rw [← hs.2.2.1]; simpa using hp)]
     exact .inl ⟨x, hx, rfl, rfl, rfl, rfl, rfl⟩
 | del n u hn hne hu hun hc =>
   have hx2 : x' ∈ tickT [u.p] ((T.clock + 1 : Nat) : Int) (dropT n.nm T.L) := hx'
   show (∃ x ∈ T.L, _ ∧ _ ∧ _ ∧ _ ∧ kidsT (tickT [u.p] _ (dropT n.nm T.L)) x'.nm = _) ∨ _
   rw [kids_tickT]
   rw [tickT_map] at hx2
   obtain ⟨y, hy, rfl⟩ := List.mem_map.1 hx2
   obtain ⟨hyT, hyn⟩ := dropT_mem.1 hy
   by_cases hq : y.p ∈ [u.p]
   · rw [if_pos hq]
     exact .inr ⟨rfl, rfl, .inl ⟨y, hyT, rfl⟩⟩
   · rw [if_neg hq]
     refine .inl ⟨y, hyT, rfl, rfl, rfl, rfl, ?_⟩
     have hnn := (List.dropLast_concat_getLast hne).symm
     rw [hnn] at hyn ⊢
     rw [kids_drop hT.srt hyn, if_neg]
     intro hy0
     have := srtT_inj hT.srt hyT hu (hy0.trans hun.symm)
     exact hq (by rw [this]; simp)
 | move a0 b0 sa sb n u d k hu hun hc hb hnm =>
   have hx2 : x' ∈ tickT [u.p, d.p] ((T.clock + 1 : Nat) : Int) (moveT (a0 ++ [sa]) (b0 ++ [sb]) T.L) := hx'
   show (∃ x ∈ T.L, _ ∧ _ ∧ _ ∧ _ ∧ kidsT (tickT [u.p, d.p] _ (moveT (a0 ++ [sa]) (b0 ++ [sb]) T.L)) x'.nm = _) ∨ _
   rw [kids_tickT]
   rw [tickT_map] at hx2
   obtain ⟨y, hy, rfl⟩ := List.mem_map.1 hx2
   obtain ⟨x, hx, rfl⟩ := moveT_mem.1 hy
   have hpar := hT.parT
   by_cases hq : (renE (renP (a0 ++ [sa]) (b0 ++ [sb])) x).p ∈ [u.p, d.p]
   · rw [if_pos hq]
     exact .inr ⟨rfl, rfl, .inl ⟨x, hx, rfl⟩⟩
   · rw [if_neg hq]
     refine .inl ⟨x, hx, rfl, rfl, rfl, rfl, ?_⟩
     show kidsT _ (renP _ _ x.nm) = _
     by_cases h3 : (a0 ++ [sa]) <+: x.nm
     · obtain ⟨t, ht⟩ := h3
       rw [← ht, renP_in, kids_moved k hT.srt hpar]
     · have h1 : x.nm ≠ b0 := fun h => hq (by
        have := srtT_inj hT.srt hx k.dmem (h.trans k.dname.symm)
        show x.p ∈ _
        rw [this]; simp)
       have h2 : x.nm ≠ a0 := fun h => hq (by
        have := srtT_inj hT.srt hx hu (h.trans hun.symm)
        show x.p ∈ _
        rw [this]; simp)
       rw [renP_out h3, kids_stay k hT.srt hpar hx h3, kidM, if_neg h1, if_neg h2]
end Go.Proofs.YtnkapojbijbbaaaGreatDoor.Sr
namespace Go.Proofs.YtnkapojbijbbaaaGreatDoor.Sr
open Go.RowKit Go.Maps Go.WideMaps Rf Go.Proofs.YtnkapojbijbbaaaGreatDoor.Nm St
def chgd (x : Stp) (T : Tr) : Bool := decide (runE x T = 0) && (decide (0 ≤ x.kind) && decide (x.kind ≤ 8))
structure RunF (x : Stp) (T T' : Tr) : Prop where
 yes : chgd x T = true → T'.clock = T.clock + 1
 no : chgd x T = false → T'.L = T.L ∧ T'.clock = T.clock
 reads : T'.reads = T.reads + if runE x T = 0 ∧ x.kind = 9 then 1 else 0
theorem writeT_clock {p d : List UInt8} {T : Tr} (h : writeE p d T = 0) : (writeT p d T).clock = T.clock + 1 ∧ (writeT p d T).reads = T.reads := by
 rw [writeT, if_pos h]
 cases hg : getT (splitL p) T.L with
 | none =>
   rw [writeE, hg] at h
   split at h
   · cases h
   · split at h
     · cases h
     · cases h
 | some n => exact ⟨rfl, rfl⟩
theorem moveTr_clock {B : Nat} {w : World} {r : Nat} {p q : List UInt8} {T : Tr} (hT : TreeAt B w r T) (h : moveE p q T = 0) : (moveTr p q T).clock = T.clock + 1 ∧ (moveTr p q T).reads = T.reads := by
 rw [moveTr, if_pos h]
 rw [moveE] at h
 split at h
 · cases h
 · split at h
   · cases h
   · cases hg : getT (splitL p) T.L with
     | none => rw [hg] at h; cases h
     | some n =>
       rw [hg] at h
       dsimp only at h
       split at h
       · cases h
       · next hne =>
         split at h
         · cases h
         · split at h
           · next ha => exact absurd h ha
           · next ha =>
             have hpn : splitL p ≠ [] := fun e => hne (.inl e)
             obtain ⟨hn, hnm⟩ := getT_nm hg
             obtain ⟨u, _, _, _, _, _, _, hu, _⟩ := hT.up hn (by rw [hnm]; exact hpn)
             rw [hnm] at hu
             have ha : abvE (splitL q) T.L = 0 := Classical.not_not.1 ha
             rw [abvE] at ha
             cases hd : getT (splitL q).dropLast T.L with
             | none => rw [hd] at ha; cases ha
             | some d => rw [hu]; exact ⟨rfl, rfl⟩
theorem dropTr_clock {B : Nat} {w : World} {r : Nat} {p : List UInt8} {T : Tr} (hT : TreeAt B w r T) (h : dropE p T = 0) : (dropTr p T).clock = T.clock + 1 ∧ (dropTr p T).reads = T.reads := by
 rw [dropTr, if_pos h]
 rw [dropE] at h
 split at h
 · cases h
 · cases hg : getT (splitL p) T.L with
   | none => rw [hg] at h; cases h
   | some n =>
     rw [hg] at h
     dsimp only at h
     split at h
     · cases h
     · next hpn =>
       obtain ⟨hn, hnm⟩ := getT_nm hg
       obtain ⟨u, _, _, _, _, _, _, hu, _⟩ := hT.up hn (by rw [hnm]; exact hpn)
       rw [hnm] at hu
       rw [hu]; exact ⟨rfl, rfl⟩
theorem RunIs.facts {B : Nat} {w : World} {r : Nat} {x : Stp} {T T' : Tr} (hT : TreeAt B w r T) (h : RunIs x T T') : RunF x T T' := by
 unfold RunIs at h
 by_cases h0 : runE x T = 0
 case neg =>
  rw [if_pos h0] at h
  subst h
  have hc : chgd x T' = false := by rw [chgd, decide_eq_false h0, Bool.false_and]
  exact ⟨(fun hy => by rw [hc] at hy; cases hy), fun _ => ⟨rfl, rfl⟩, by rw [if_neg (fun h => h0 h.1)]; rfl⟩
 rw [if_neg (by simp [h0])] at h
 have key : ∀ (_ : 0 ≤ x.kind ∧ x.kind ≤ 8) (_ : T'.clock = T.clock + 1 ∧ T'.reads = T.reads), RunF x T T' := fun hk hT => by
  have hc : chgd x T = true := by rw [chgd, decide_eq_true h0, decide_eq_true hk.1, decide_eq_true hk.2]; rfl
  exact ⟨fun _ => hT.1, (fun hn => by rw [hc] at hn; cases hn), by rw [if_neg (fun h => by omega)]; exact hT.2⟩
 have kee : ¬ (0 ≤ x.kind ∧ x.kind ≤ 8) → chgd x T = false := fun hk => by
  cases hc : chgd x T with
  | false => rfl
  | true =>
    simp only [chgd, Bool.and_eq_true, decide_eq_true_eq] at hc
    exact absurd hc.2 hk
 have add : ∀ {p d : List UInt8} {A : XA}, AddIs p d A T T' → T'.clock = T.clock + 1 ∧ T'.reads = T.reads := by
  rintro p d A ⟨n, u, _, _, _, _, _, _, _, rfl⟩; exact ⟨rfl, rfl⟩
 have set : ∀ {p : List UInt8} {f : TE → XA}, SetIs p f T T' → T'.clock = T.clock + 1 ∧ T'.reads = T.reads := by
  rintro p f ⟨n, xv, _, rfl⟩; exact ⟨rfl, rfl⟩
 have e := h0
 unfold runE at e
 by_cases k0 : x.kind = 0
 · rw [if_pos k0] at h; exact key (by omega) (add h)
 rw [if_neg k0] at h e
 by_cases k1 : x.kind = 1
 · rw [if_pos k1] at h; exact key (by omega) (add h)
 rw [if_neg k1] at h e
 by_cases k2 : x.kind = 2
 · rw [if_pos k2] at h; exact key (by omega) (add h)
 rw [if_neg k2] at h e
 by_cases k3 : x.kind = 3
 · rw [if_pos k3] at h e; subst h; exact key (by omega) (writeT_clock e)
 rw [if_neg k3] at h e
 by_cases k4 : x.kind = 4
 · rw [if_pos k4] at h; exact key (by omega) (set h)
 rw [if_neg k4] at h e
 by_cases k5 : x.kind = 5
 · rw [if_pos k5] at h; exact key (by omega) (set h)
 rw [if_neg k5] at h e
 by_cases k6 : x.kind = 6
 · rw [if_pos k6] at h; exact key (by omega) (set h)
 rw [if_neg k6] at h e
 by_cases k7 : x.kind = 7
 · rw [if_pos k7] at h e; subst h; exact key (by omega) (moveTr_clock hT e)
 rw [if_neg k7] at h e
 by_cases k8 : x.kind = 8
 · rw [if_pos k8] at h e; subst h; exact key (by omega) (dropTr_clock hT e)
 rw [if_neg k8] at h e
 by_cases k9 : x.kind = 9
 · rw [if_pos k9] at h; subst h
   have hc := kee (by omega)
   exact ⟨(fun hy => by rw [hc] at hy; cases hy), fun _ => ⟨rfl, rfl⟩, by rw [if_pos ⟨h0, k9⟩]⟩
 · rw [if_neg k9] at h; subst h
   have hc := kee (by omega)
   exact ⟨(fun hy => by rw [hc] at hy; cases hy), fun _ => ⟨rfl, rfl⟩, by rw [if_neg (fun h => k9 h.2)]; rfl⟩
structure HnSt (B : Nat) (w : World) (r : Nat) (T : Tr) (v0 : Value) (R0 : List (TE × Value)) (g k : Nat) : Prop where
 tree : TreeAt B w r T
 good : Good k T
 reads : T.reads ≤ k
 out : OutAt B w v0 R0
 map : R0.map (·.1) = T.L
 sep : ∀ x ∈ r :: (ownL T.L ++ xobL T.L), x ∉ ob v0 ++ R0.flatMap (fun p => ob p.2)
 most : g ≤ T.most
theorem OutAt.mono {C C' : Nat} {w : World} {v : Value} {R : List (TE × Value)} (h : OutAt C w v R) (hc : C' ≤ C) : OutAt C' w v R :=
 ⟨row_mono h.row hc, fun p hp => row_mono (h.xrow p hp) hc, h.nod⟩
theorem OutAt.lt {C : Nat} {w : World} {v : Value} {R : List (TE × Value)} (h : OutAt C w v R) : ∀ b ∈ ob v ++ R.flatMap (fun p => ob p.2), C ≤ b ∧ b < w.heap.size := by
 intro b hb
 rcases List.mem_append.1 hb with hb | hb
 · exact ⟨rowS_ge h.row b hb, rowS_lt h.row b hb⟩
 · obtain ⟨p, hp, hb⟩ := List.mem_flatMap.1 hb
   exact ⟨rowS_ge (h.xrow p hp) b hb, rowS_lt (h.xrow p hp) b hb⟩
theorem told_apart {B' : Nat} {w w' : World} {r : Nat} {T : Tr} {v : Value} {R : List (TE × Value)} (hT : TreeAt B' w r T) (h : OutAt w.heap.size w' v R) : ∀ x ∈ r :: (ownL T.L ++ xobL T.L), x ∉ ob v ++ R.flatMap (fun p => ob p.2) := by
 intro x hx hb
 have h1 := hT.lt x hx
 have h2 := (h.lt x hb).1
 omega
section
variable {B : Nat} {w w' : World} {r : Nat} {T : Tr} {v0 : Value} {R0 : List (TE × Value)} {g k : Nat}
theorem HnSt.below (h : HnSt B w r T v0 R0 g k) (hb : Below w.heap.size w w') : HnSt B w' r T v0 R0 g k :=
 ⟨h.tree.below hb, h.good, h.reads, h.out.below hb, h.map, h.sep, h.most⟩
structure HnRun (B : Nat) (w' : World) (r : Nat) (T T' : Tr) (v0 : Value) (R0 : List (TE × Value)) (k : Nat) (x : Stp) : Prop where
 tree : TreeAt B w' r T'
 good : Good (k + 1) T'
 reads : T'.reads ≤ k + 1
 out : OutAt B w' v0 R0
 was : Was T T'
 most : T.most ≤ T'.most
 facts : RunF x T T'
theorem HnSt.run (h : HnSt B w r T v0 R0 g k) {x : Stp} {e : Ending} (hp : RunP B w r T x e w') (hB : B ≤ w.heap.size) : e = .returned (.int .i64 (runE x T)) ∧ ∃ T', HnRun B w' r T T' v0 R0 k x ∧ Below B w w' := by
 obtain ⟨he, T', htr, htu, how, hch, hri⟩ := hp
 have hF := hri.facts h.tree
 have hG := ChT.good h.tree hch h.good
 refine ⟨he, T', ⟨htr, ⟨hG.deep, hG.names, hG.att, hG.data, hG.ino, hG.inos, hG.tick, hG.clock, hG.most, hG.len⟩, ?_, h.out.kept (fun b hb hl => htu.block b hl (fun hx => ?_)), (show Was T { T' with reads := T.reads } from ChT.was h.tree hch), hch.hist.most, hF⟩, htu.below (fun x hx => h.tree.base x ?_) hB⟩
 · rw [hF.reads]; have := h.reads; split <;> omega
 · refine h.sep b ?_ hb
   rw [List.mem_cons] at hx ⊢
   exact hx.imp id (fun h => List.mem_append_left _ h)
 · rw [List.mem_cons] at hx ⊢
   exact hx.imp id (fun h => List.mem_append_left _ h)
theorem HnRun.next {T' : Tr} {x : Stp} (h : HnRun B w r T T' v0 R0 k x) {v1 : Value} {R1 : List (TE × Value)} (hm : R1.map (·.1) = T'.L) (ho : OutAt w.heap.size w' v1 R1) (hb : Below w.heap.size w w') (hB : B ≤ w.heap.size) {g' : Nat} (hg : g' ≤ T'.most) : HnSt B w' r T' v1 R1 g' (k + 1) :=
 ⟨h.tree.below hb, h.good, h.reads, ho.mono hB, hm, told_apart h.tree ho, hg⟩
end
end Go.Proofs.YtnkapojbijbbaaaGreatDoor.Sr
namespace Go.Proofs.YtnkapojbijbbaaaGreatDoor.Sr
open Go.RowKit Rf Go.Proofs.YtnkapojbijbbaaaGreatDoor.Nm St
theorem srt_untick {L : List TE} {q : Nat} {c : Int} (hs : SrtT (tick1 q c L)) : SrtT L := by
 rw [SrtT, tick1, List.pairwise_map] at hs
 refine List.Pairwise.imp ?_ hs
 intro a b hab
 have hab : ahd (if a.p = q then ({ a with tick := c } : TE) else a).nm (if b.p = q then ({ b with tick := c } : TE) else b).nm = true := hab
 have h1 : (if a.p = q then ({ a with tick := c } : TE) else a).nm = a.nm := by split <;> rfl
 have h2 : (if b.p = q then ({ b with tick := c } : TE) else b).nm = b.nm := by split <;> rfl
 rw [h1, h2] at hab; exact hab
theorem srt_unticks {c : Int} : ∀ {qs : List Nat} {L : List TE}, SrtT (tickT qs c L) → SrtT L
 | [], _, h => h
 | _ :: _, _, h => srt_untick (srt_unticks (L := tick1 _ _ _) h)
end Go.Proofs.YtnkapojbijbbaaaGreatDoor.Sr
namespace Go.Proofs.YtnkapojbijbbaaaGreatDoor.Sr
open Go.RowKit Go.Maps Go.WideMaps Rf Go.Proofs.YtnkapojbijbbaaaGreatDoor.Nm St
section
variable {α β : Type}
end
structure MvFacts (T : Tr) (p q : List UInt8) (n u d : TE) (sa sb : List UInt8) : Prop where
 hp : splitL p = u.nm ++ [sa]
 hq : splitL q = d.nm ++ [sb]
 ep : splitE p = 0
 eq : splitE q = 0
 ok : MoveOk u.nm d.nm sa sb T.L n d
 hu : u ∈ T.L
 hu2 : u.at_.node = 2
 hd2 : d.at_.node = 2
 clk : T.clock < 1099511627776
 tr : moveTr p q T = { T with clock := T.clock + 1, L := tickT [u.p, d.p] ((T.clock + 1 : Nat) : Int) (moveT (u.nm ++ [sa]) (d.nm ++ [sb]) T.L) }
theorem move_facts {B : Nat} {w : World} {r : Nat} {T : Tr} {p q : List UInt8} (hT : TreeAt B w r T) (h0 : moveE p q T = 0) : ∃ n u d sa sb, MvFacts T p q n u d sa sb := by
 have hM := h0
 rw [moveE] at hM
 by_cases hp : splitE p ≠ 0
 · rw [if_pos hp] at hM; cases hM
 rw [if_neg hp] at hM
 by_cases hq : splitE q ≠ 0
 · rw [if_pos hq] at hM; cases hM
 rw [if_neg hq] at hM
 cases hg : getT (splitL p) T.L with
 | none => rw [hg] at hM; cases hM
 | some n =>
   rw [hg] at hM
   dsimp only at hM
   by_cases c1 : splitL p = [] ∨ ((splitL p).length < (splitL q).length ∧ splitL p = (splitL q).take (splitL p).length)
   · rw [if_pos c1] at hM; cases hM
   rw [if_neg c1] at hM
   have hne : splitL p ≠ [] := fun h => c1 (.inl h)
   by_cases c2 : (getT (splitL q) T.L).isSome = true
   · rw [if_pos c2] at hM; cases hM
   rw [if_neg c2] at hM
   by_cases c3 : abvE (splitL q) T.L ≠ 0
   · rw [if_pos c3] at hM; exact absurd hM c3
   rw [if_neg c3] at hM
   have c3 : abvE (splitL q) T.L = 0 := Classical.not_not.1 c3
   have hqne : splitL q ≠ [] := by
    intro hc
    obtain ⟨e, he, _⟩ := hT.root
    rw [hc, he] at c2; exact c2 rfl
   obtain ⟨hnm, hnn⟩ := getT_nm hg
   obtain ⟨u, _, sa, hu, hua, hun, _, hgu, hu2⟩ := hT.up hnm (by rw [hnn]; exact hne)
   rw [hnn] at hun hgu hua
   cases hgd : getT (splitL q).dropLast T.L with
   | none => rw [abvE, hgd] at c3; cases c3
   | some d =>
     obtain ⟨hdm, hdn⟩ := getT_nm hgd
     have hd2 : d.at_.node = 2 := by
      rw [abvE, hgd] at c3
      dsimp only at c3
      split at c3
      · next h => exact h
      · cases c3
     have hqs : splitL q = d.nm ++ [(splitL q).getLast hqne] := by rw [hdn]; exact (List.dropLast_concat_getLast hqne).symm
     have hcl : T.clock < 1099511627776 := by
      by_cases c4 : 16 < (splitL q).length + deepN T.L (splitL p)
      · rw [if_pos c4] at hM; cases hM
      · rw [if_neg c4] at hM
        split at hM
        · cases hM
        · next h => exact Nat.lt_of_not_le (fun hh => h (.inr hh))
     refine ⟨n, u, d, sa, (splitL q).getLast hqne, hua, hqs, Classical.not_not.1 hp, Classical.not_not.1 hq, ⟨hnm, by rw [hnn]; exact hua, ?_, ?_, hdm, rfl, (hT.kind d hdm).1 hd2⟩, hu, hu2, hd2, hcl, ?_⟩
     · rw [← hqs]
       cases hc : getT (splitL q) T.L with
       | none => rfl
       | some x => rw [hc] at c2; exact absurd rfl c2
     · rw [← hqs, ← hua]
       intro hpre
       have hle := hpre.length_le
       by_cases hlt : (splitL p).length < (splitL q).length
       · exact c1 (.inr ⟨hlt, List.prefix_iff_eq_take.1 hpre⟩)
       · have := hpre.eq_of_length (by omega)
         rw [← this, hg] at c2
         exact c2 rfl
     · rw [moveTr, if_pos h0, hgu, hgd, ← hqs, ← hua]
section
variable {B : Nat} {w w1 : World} {r k : Nat} {T : Tr} {p q : List UInt8}
end
end Go.Proofs.YtnkapojbijbbaaaGreatDoor.Sr
namespace Go.Proofs.YtnkapojbijbbaaaGreatDoor.Sr
open Go.RowKit Go.Maps Go.WideMaps Rf Go.Proofs.YtnkapojbijbbaaaGreatDoor.Nm St
def bare (e : TE) : TE := { e with p := 0, m := none, xv := .slice none 0 0 }
def Tr.bare (T : Tr) : Tr := { T with L := T.L.map Sr.bare }
section
variable {L : List TE} {T : Tr}
theorem getT_bare (n : PN) (L : List TE) : getT n (L.map bare) = (getT n L).map bare := by
 rw [getT, getT, List.find?_map]; rfl
theorem kids_bare (n : PN) (L : List TE) : (kidsT (L.map bare) n).length = (kidsT L n).length := by
 rw [kidsT, kidsT, List.length_filterMap_eq_countP, List.length_filterMap_eq_countP, List.countP_map]
 congr 1
 funext e
 show (kidOf n (bare e)).isSome = (kidOf n e).isSome
 rw [Bool.eq_iff_iff, Option.isSome_iff_exists, Option.isSome_iff_exists]
 constructor
 · rintro ⟨k, hk⟩; exact ⟨(k.1, e.p), kidOf_some.2 ⟨(kidOf_some.1 hk).1, rfl⟩⟩
 · rintro ⟨k, hk⟩; exact ⟨(k.1, 0), kidOf_some.2 ⟨(kidOf_some.1 hk).1, rfl⟩⟩
theorem abvE_bare (l : PN) (L : List TE) : abvE l (L.map bare) = abvE l L := by
 rw [abvE, abvE, getT_bare]
 cases getT l.dropLast L <;> rfl
theorem deepN_bare (n : PN) (L : List TE) : deepN (L.map bare) n = deepN L n := by
 rw [deepN, deepN, subT, subT, List.filter_map, List.foldr_map]; rfl
theorem addE_bare (p d : List UInt8) (A : XA) (T : Tr) : addE p d A T.bare = addE p d A T := by
 simp only [addE, Tr.bare, getT_bare, Option.isSome_map, abvE_bare, kids_bare]
theorem writeE_bare (p d : List UInt8) (T : Tr) : writeE p d T.bare = writeE p d T := by
 simp only [writeE, Tr.bare, getT_bare]
 cases getT (splitL p) T.L <;> rfl
theorem attrE_bare (p : List UInt8) (A : XA) (T : Tr) : attrE p A T.bare = attrE p A T := by
 simp only [attrE, Tr.bare, getT_bare]
 cases getT (splitL p) T.L <;> rfl
theorem xattrE_bare (p s t : List UInt8) (T : Tr) : xattrE p s t T.bare = xattrE p s t T := by
 simp only [xattrE, Tr.bare, getT_bare]
 cases getT (splitL p) T.L <;> rfl
theorem clearE_bare (p s : List UInt8) (T : Tr) : clearE p s T.bare = clearE p s T := by
 simp only [clearE, Tr.bare, getT_bare]
 cases getT (splitL p) T.L <;> rfl
theorem moveE_bare (p q : List UInt8) (T : Tr) : moveE p q T.bare = moveE p q T := by
 simp only [moveE, Tr.bare, getT_bare, Option.isSome_map, abvE_bare, kids_bare, deepN_bare]
 cases getT (splitL p) T.L <;> rfl
theorem dropE_bare (p : List UInt8) (T : Tr) : dropE p T.bare = dropE p T := by
 simp only [dropE, Tr.bare, getT_bare]
 cases getT (splitL p) T.L <;> rfl
theorem readE_bare (p : List UInt8) (T : Tr) : readE p T.bare.L = readE p T.L := by
 simp only [readE, Tr.bare, getT_bare]
 cases getT (splitL p) T.L <;> rfl
theorem runE_bare (x : Stp) (T : Tr) : runE x T.bare = runE x T := by
 simp only [runE, addE_bare, writeE_bare, attrE_bare, xattrE_bare, clearE_bare, moveE_bare, dropE_bare, readE_bare]
def tickN (ns : List PN) (c : Int) (L : List TE) : List TE := L.map fun x => if x.nm ∈ ns then { x with tick := c } else x
def updN (e' : TE) (L : List TE) : List TE := L.map fun x => if x.nm = e'.nm then e' else x
theorem tick_bare (ho : (ownL L).Nodup) (hs : SrtT L) (us : List TE) (hu : ∀ u ∈ us, u ∈ L) (c : Int) : (tickT (us.map TE.p) c L).map bare = tickN (us.map TE.nm) c (L.map bare) := by
 rw [tickT_map, tickN, List.map_map, List.map_map]
 refine List.map_congr_left (fun x hx => ?_)
 show bare (if x.p ∈ us.map TE.p then _ else x) = if x.nm ∈ us.map TE.nm then _ else _
 have h : x.p ∈ us.map TE.p ↔ x.nm ∈ us.map TE.nm := by
  rw [List.mem_map, List.mem_map]
  constructor
  · rintro ⟨u, hu', h⟩; exact ⟨u, hu', by rw [flat_inj ho (hu u hu') hx (x := u.p) (by simp [ownE]) (by rw [h]; simp [ownE])]⟩
  · rintro ⟨u, hu', h⟩; exact ⟨u, hu', by rw [srtT_inj hs (hu u hu') hx h]⟩
 by_cases hp : x.p ∈ us.map TE.p
 · rw [if_pos hp, if_pos (h.1 hp)]; rfl
 · rw [if_neg hp, if_neg (fun hn => hp (h.2 hn))]
theorem ins_bare (e : TE) : ∀ L : List TE, (insT e L).map bare = insT (bare e) (L.map bare)
 | [] => rfl
 | y :: r => by
   rw [insT, List.map_cons, insT]
   show _ = if ahd e.nm y.nm then _ else _
   by_cases h : ahd e.nm y.nm = true
   · rw [if_pos h, if_pos h]; rfl
   · rw [if_neg h, if_neg h, List.map_cons, ins_bare e r]
theorem sort_bare : ∀ L : List TE, (sortT L).map bare = sortT (L.map bare)
 | [] => rfl
 | y :: r => by
   show (insT y (sortT r)).map bare = insT (bare y) (sortT (r.map bare))
   rw [ins_bare, sort_bare r]
theorem move_bare (a b : PN) (L : List TE) : (moveT a b L).map bare = moveT a b (L.map bare) := by
 rw [moveT, moveT, sort_bare, List.map_map, List.map_map]; rfl
theorem drop_bare (l : PN) (L : List TE) : (dropT l L).map bare = dropT l (L.map bare) := by
 rw [dropT, dropT, List.filter_map]; rfl
theorem upd_bare (ho : (ownL L).Nodup) (hs : SrtT L) {n n' : TE} (hn : n ∈ L) (hp : n'.p = n.p) (hm : n'.nm = n.nm) : (updT n' L).map bare = updN (bare n') (L.map bare) := by
 rw [updT, updN, List.map_map, List.map_map]
 refine List.map_congr_left (fun x hx => ?_)
 show bare (if x.p = n'.p then n' else x) = if x.nm = n'.nm then bare n' else bare x
 have h : x.p = n'.p ↔ x.nm = n'.nm := by
  rw [hp, hm]
  constructor
  · intro h; rw [flat_inj ho hx hn (x := x.p) (by simp [ownE]) (by rw [h]; simp [ownE])]
  · intro h; rw [srtT_inj hs hx hn h]
 by_cases hc : x.p = n'.p
 · rw [if_pos hc, if_pos (h.1 hc)]
 · rw [if_neg hc, if_neg (fun hn => hc (h.2 hn))]
def addN (p d : List UInt8) (A : XA) (F : Tr) : Tr :=
 { F with clock := F.clock + 1, most := F.most + 1, L := tickN [splitL p, (splitL p).dropLast] ((F.clock + 1 : Nat) : Int) (insT ⟨splitL p, F.most + 1, 0, A, d, 0, none, .slice none 0 0⟩ F.L) }
def setN (p : List UInt8) (g : TE → TE) (F : Tr) : Tr :=
 match getT (splitL p) F.L with
 | none => F
 | some n => { F with clock := F.clock + 1, L := tickN [splitL p] ((F.clock + 1 : Nat) : Int) (updN (g n) F.L) }
def moveN (p q : List UInt8) (F : Tr) : Tr := { F with clock := F.clock + 1, L := tickN [(splitL p).dropLast, (splitL q).dropLast] ((F.clock + 1 : Nat) : Int) (moveT (splitL p) (splitL q) F.L) }
def dropN (p : List UInt8) (F : Tr) : Tr := { F with clock := F.clock + 1, L := tickN [(splitL p).dropLast] ((F.clock + 1 : Nat) : Int) (dropT (splitL p) F.L) }
def runN (x : Stp) (F : Tr) : Tr :=
 if runE x F ≠ 0 then F
 else if x.kind = 0 then addN x.path [] (asFold x.A) F
 else if x.kind = 1 then addN x.path x.more (asFile x.A) F
 else if x.kind = 2 then addN x.path [] (asLink x.more x.A) F
 else if x.kind = 3 then setN x.path (fun n => { n with data := x.more }) F
 else if x.kind = 4 then setN x.path (fun n => { n with at_ := asOf x.A n }) F
 else if x.kind = 5 then setN x.path (fun n => { n with at_ := xattrA x.A.target x.more n.at_ }) F
 else if x.kind = 6 then setN x.path (fun n => { n with at_ := clearA x.A.target n.at_ }) F
 else if x.kind = 7 then moveN x.path x.more F
 else if x.kind = 8 then dropN x.path F
 else if x.kind = 9 then { F with reads := F.reads + 1 }
 else F
end
section
variable {B B' : Nat} {w w' : World} {r : Nat} {T T' : Tr}
theorem tree_tick {qs : List Nat} {c : Int} {L : List TE} (h : TreeAt B w r T) (hL : T.L = tickT qs c L) : (ownL L).Nodup ∧ SrtT L := by
 refine ⟨?_, srt_unticks (qs := qs) (c := c) (by rw [← hL]; exact h.srt)⟩
 have := h.own_nod
 rw [hL, own_tickT] at this; exact this
theorem bare_add {p d : List UInt8} {A : XA} (h : AddIs p d A T T') (hT' : TreeAt B w' r T') : T'.bare = addN p d A T.bare := by
 obtain ⟨n, u, hu, hun, hn, hi, ha, hd, ht, rfl⟩ := h
 obtain ⟨ho, hs⟩ := tree_tick hT' rfl
 have hk := tick_bare ho hs [n, u] (by
  intro x hx
  rcases List.mem_cons.1 hx with rfl | hx
  · exact mem_insT.2 (.inl rfl)
  · obtain rfl := List.mem_singleton.1 hx
    exact mem_insT.2 (.inr hu)) ((T.clock + 1 : Nat) : Int)
 have hb : bare n = ⟨splitL p, T.most + 1, 0, A, d, 0, none, .slice none 0 0⟩ := by
  rw [bare, hn, hi, ha, hd, ht]
 rw [ins_bare, hb] at hk
 simp only [List.map_cons, List.map_nil, hn, hun] at hk
 show Tr.mk (((tickT [n.p, u.p] _ _).map Sr.bare)) _ _ _ = _
 rw [hk]; rfl
theorem bare_set {p : List UInt8} {g g' : TE → TE} (hg : ∀ n, bare (g' n) = g (bare n)) (hp : ∀ n, (g' n).p = n.p ∧ (g' n).nm = n.nm) {n : TE} (hn : getT (splitL p) T.L = some n) (hT' : TreeAt B w' r T') (hT : TreeAt B' w r T)
 (he : T' = { T with clock := T.clock + 1, L := tickT [n.p] ((T.clock + 1 : Nat) : Int) (updT (g' n) T.L) }) : T'.bare = setN p g T.bare := by
 subst he
 obtain ⟨ho, hs⟩ := tree_tick hT' rfl
 obtain ⟨hm, hnm⟩ := getT_nm hn
 have h1 : g' n ∈ updT (g' n) T.L := List.mem_map.2 ⟨n, hm, by rw [if_pos (hp n).1.symm]⟩
 have hk := tick_bare ho hs [g' n] (by
  intro x hx
  obtain rfl := List.mem_singleton.1 hx
  exact h1) ((T.clock + 1 : Nat) : Int)
 rw [upd_bare hT.own_nod hT.srt hm (hp n).1 (hp n).2, hg] at hk
 simp only [List.map_cons, List.map_nil, (hp n).1, (hp n).2, hnm] at hk
 have hgb : getT (splitL p) T.bare.L = some (bare n) := by
  show getT (splitL p) (T.L.map bare) = _
  rw [getT_bare, hn]; rfl
 rw [setN, hgb]
 show Tr.mk (((tickT [n.p] _ _).map Sr.bare)) _ _ _ = _
 rw [hk]; rfl
theorem bare_move {p q : List UInt8} (h0 : moveE p q T = 0) (hT : TreeAt B w r T) (hT' : TreeAt B' w' r (moveTr p q T)) : (moveTr p q T).bare = moveN p q T.bare := by
 obtain ⟨n, u, d, sa, sb, F⟩ := move_facts hT h0
 rw [F.tr] at hT' ⊢
 obtain ⟨ho, hs⟩ := tree_tick hT' rfl
 have hin : ∀ y ∈ T.L, ¬ (u.nm ++ [sa]) <+: y.nm → y ∈ moveT (u.nm ++ [sa]) (d.nm ++ [sb]) T.L := fun y hy hpre => moveT_mem.2 ⟨y, hy, by rw [renE, renP_out hpre]⟩
 have hu3 : ¬ (u.nm ++ [sa]) <+: u.nm := fun h => by have := h.length_le; rw [List.length_append, List.length_singleton] at this; omega
 have hk := tick_bare ho hs [u, d] (by
  intro x hx
  rcases List.mem_cons.1 hx with rfl | hx
  · exact hin _ F.hu hu3
  · obtain rfl := List.mem_singleton.1 hx
    exact hin _ F.ok.dmem F.ok.off0) ((T.clock + 1 : Nat) : Int)
 rw [move_bare] at hk
 simp only [List.map_cons, List.map_nil] at hk
 rw [moveN, F.hp, F.hq, List.dropLast_concat, List.dropLast_concat]
 show Tr.mk (((tickT [u.p, d.p] _ _).map Sr.bare)) _ _ _ = _
 rw [hk]; rfl
theorem bare_drop {p : List UInt8} (h0 : dropE p T = 0) (hT : TreeAt B w r T) (hT' : TreeAt B' w' r (dropTr p T)) : (dropTr p T).bare = dropN p T.bare := by
 have h := h0
 rw [dropE] at h
 split at h
 · cases h
 · cases hg : getT (splitL p) T.L with
   | none => rw [hg] at h; cases h
   | some n =>
     rw [hg] at h
     dsimp only at h
     split at h
     · cases h
     · next hpn =>
       obtain ⟨hn, hnm⟩ := getT_nm hg
       obtain ⟨u, _, sl, hu, hnu, hun, _, hgu, _⟩ := hT.up hn (by rw [hnm]; exact hpn)
       rw [hnm] at hun hgu hnu
       rw [dropTr, if_pos h0, hgu] at hT' ⊢
       dsimp only at hT' ⊢
       obtain ⟨ho, hs⟩ := tree_tick hT' rfl
       have hk := tick_bare ho hs [u] (by
        intro x hx
        obtain rfl := List.mem_singleton.1 hx
        refine dropT_mem.2 ⟨hu, fun hpre => ?_⟩
        have := hpre.length_le
        rw [hnu, List.length_append, List.length_singleton] at this
        omega) ((T.clock + 1 : Nat) : Int)
       rw [drop_bare] at hk
       simp only [List.map_cons, List.map_nil, hun] at hk
       rw [dropN]
       show Tr.mk (((tickT [u.p] _ _).map Sr.bare)) _ _ _ = _
       rw [hk]; rfl
theorem bare_run {x : Stp} (h : RunIs x T T') (hT : TreeAt B w r T) (hT' : TreeAt B' w' r T') : T'.bare = runN x T.bare := by
 unfold RunIs at h
 rw [runN, runE_bare]
 by_cases h0 : runE x T ≠ 0
 · rw [if_pos h0] at h ⊢; rw [h]
 rw [if_neg h0] at h ⊢
 have h00 : runE x T = 0 := Classical.not_not.1 h0
 rw [runE] at h00
 by_cases k0 : x.kind = 0
 · rw [if_pos k0] at h ⊢; exact bare_add h hT'
 rw [if_neg k0] at h h00 ⊢
 by_cases k1 : x.kind = 1
 · rw [if_pos k1] at h ⊢; exact bare_add h hT'
 rw [if_neg k1] at h h00 ⊢
 by_cases k2 : x.kind = 2
 · rw [if_pos k2] at h ⊢; exact bare_add h hT'
 rw [if_neg k2] at h h00 ⊢
 by_cases k3 : x.kind = 3
 · rw [if_pos k3] at h h00 ⊢
   have hw := h00
   rw [writeE] at hw
   cases hg : getT (splitL x.path) T.L with
   | none =>
     rw [hg] at hw
     split at hw
     · cases hw
     · split at hw <;> cases hw
   | some n =>
     rw [writeT, if_pos h00, hg] at h
     exact bare_set (g' := fun n => { n with data := x.more }) (fun n => rfl) (fun n => ⟨rfl, rfl⟩) hg hT' hT h
 rw [if_neg k3] at h h00 ⊢
 by_cases k4 : x.kind = 4
 · rw [if_pos k4] at h ⊢
   obtain ⟨n, xv, hg, h⟩ := h
   exact bare_set (g' := fun n => { n with at_ := asOf x.A n, xv := xv }) (fun n => rfl) (fun n => ⟨rfl, rfl⟩) hg hT' hT h
 rw [if_neg k4] at h h00 ⊢
 by_cases k5 : x.kind = 5
 · rw [if_pos k5] at h ⊢
   obtain ⟨n, xv, hg, h⟩ := h
   exact bare_set (g' := fun n => { n with at_ := xattrA x.A.target x.more n.at_, xv := xv }) (fun n => rfl) (fun n => ⟨rfl, rfl⟩) hg hT' hT h
 rw [if_neg k5] at h h00 ⊢
 by_cases k6 : x.kind = 6
 · rw [if_pos k6] at h ⊢
   obtain ⟨n, xv, hg, h⟩ := h
   exact bare_set (g' := fun n => { n with at_ := clearA x.A.target n.at_, xv := xv }) (fun n => rfl) (fun n => ⟨rfl, rfl⟩) hg hT' hT h
 rw [if_neg k6] at h h00 ⊢
 by_cases k7 : x.kind = 7
 · rw [if_pos k7] at h h00 ⊢
   subst h; exact bare_move h00 hT hT'
 rw [if_neg k7] at h h00 ⊢
 by_cases k8 : x.kind = 8
 · rw [if_pos k8] at h h00 ⊢
   subst h; exact bare_drop h00 hT hT'
 rw [if_neg k8] at h h00 ⊢
 by_cases k9 : x.kind = 9
 · rw [if_pos k9] at h ⊢; rw [h]; rfl
 rw [if_neg k9] at h ⊢; rw [h]
end
end Go.Proofs.YtnkapojbijbbaaaGreatDoor.Sr
