/-
  The contract of the disk's Files.
-/
import Derived.Test.YtcfdfpjemonhoaaDkList
import Derived.Deep.AppendLies
namespace Go.Proofs.Ytcfdfpjemonhoaa.Dk
open Go.RowKit Go.Maps Go.WideMaps

/-- A file as it is told. -/
abbrev Told := List UInt8 × List UInt8 × Nat
def toldCells (f : Told) : List Value := [.string ⟨f.1.toArray⟩, .string ⟨f.2.1.toArray⟩, .int .i64 (f.2.2 : Int)]
def fileOf (D : Dk) (k : List UInt8) : Told := let f := D.files.getD ((getM D.now k).getD 0) ⟨[], 0⟩; (k, f.data, f.safe)
def filesN (D : Dk) : List Told := (names D.now).map (fileOf D)

theorem infoTold : (Try.prog.info? 38).map (fun i => (i.zero, i.size, i.bytes)) = some (some (.agg #[.string ⟨#[]⟩, .string ⟨#[]⟩, .int .i64 0]), 3, 40) := by kernel_rfl

theorem conv_row {w : World} {B : Nat} {v : Value} {l : List UInt8} (h : w.ownsRow B 5 1 v l.length (Lib.byteCells l)) : (convert 69 9 v).run Try.prog w = .ok (.string ⟨l.toArray⟩) w := by
  obtain ⟨h1, ⟨rfl, h2⟩ | ⟨g, cap, cur, rfl, hg, hh, _, _, _, ht⟩⟩ := h
  · have : l = [] := List.length_eq_zero_iff.1 h2
    subst this
    exact Lib.run_convert_nil_bytes w _ _ 5 0 Try.underlying69 Try.underlying5 Try.underlying9
  · rw [Nat.mul_one] at ht
    exact run_convert_bytes_back w _ _ 5 ⟨g, 0, none⟩ cap l Try.underlying69 Try.underlying5 Try.underlying9 (Lib.bytes_of_row hh ht)

theorem cell_row_new (w : World) (C : Array Value) (t : TypeId) (j : Nat) (u : Value) (h : C.toList[j]? = some u) : (w.alloc (.cells C t)).cell? ((⟨w.heap.size, 0, none⟩ : Addr).add j) = some u :=
  World.news_of_block (MapKept.heap_alloc w (.cells C t)).1 j u h

def FilesPost (D : Dk) (w : World) (e : Ending) (w' : World) : Prop := ∃ v, e = .returned v ∧ w'.ownsRow w.heap.size 38 3 v (filesN D).length ((filesN D).flatMap toldCells) ∧ Below w.heap.size w w'

theorem own_ge {w : World} {B : Nat} {e : TypeId} {size : Nat} {v : Value} {n : Nat} {xs : List Value} (h : w.ownsRow B e size v n xs) : ∀ b, v.ownBlock = some b → B ≤ b := by
  obtain ⟨_, ⟨rfl, _⟩ | ⟨g, cap, cur, rfl, hg, _⟩⟩ := h
  · intro b hb; simp [Value.ownBlock] at hb
  · intro b hb; simp [Value.ownBlock] at hb; subst hb; exact hg
theorem below_grown {w : World} {B : Nat} {w5 w6 : World} {v : Value} (hb : Below B w w5) (hB : B ≤ w5.heap.size) (hv : ∀ b, v.ownBlock = some b → B ≤ b) (hg : w5.grownBy w6 v.ownBlock) : Below B w w6 :=
  ⟨hg.os.trans hb.os, hg.tape.trans hb.tape, hg.output.trans hb.output, Nat.le_trans hb.size hg.size, fun k hk => by
    rw [hg.block k (by omega) (fun e => by have := hv k e.symm; omega)]; exact hb.block k hk⟩

theorem files_next {w3 w5 w6 : World} {D : Dk} {vl v' : Value} {k : Nat} {x : List UInt8} {f : Fl} (hx : (names D.now)[k]? = some x) (hfo : fileOf D x = (x, f.data, f.safe))
    (hl : w5.ownsRow w3.heap.size 38 3 vl k (((names D.now).take k).map (fileOf D) |>.flatMap toldCells)) (hb : Below w3.heap.size w3 w5)
    (hown : w6.ownsRow w3.heap.size 38 3 v' (k + 1) ((((names D.now).take k).map (fileOf D) |>.flatMap toldCells) ++ [.string ⟨x.toArray⟩, .string ⟨f.data.toArray⟩, .int .i64 (f.safe : Int)]))
    (hg : (w5.drew.alloc (.cells #[.string ⟨x.toArray⟩, .string ⟨f.data.toArray⟩, .int .i64 (f.safe : Int)] 38)).grownBy w6 vl.ownBlock) :
    Hid (w6.ownsRow w3.heap.size 38 3 v' (k + 1) (((names D.now).take (k + 1)).map (fileOf D) |>.flatMap toldCells)) ∧ Hid (Below w3.heap.size w3 w6) := by
  refine ⟨Lib.hid ?_, Lib.hid ?_⟩
  · have e : (((names D.now).take (k + 1)).map (fileOf D) |>.flatMap toldCells) = (((names D.now).take k).map (fileOf D) |>.flatMap toldCells) ++ [.string ⟨x.toArray⟩, .string ⟨f.data.toArray⟩, .int .i64 (f.safe : Int)] := by
      rw [List.take_add_one, hx, List.map_append, List.flatMap_append]
      simp [hfo, toldCells]
    rw [e]; exact hown
  · refine below_grown (v := vl) ((hb.drew).alloc hb.size _) ?_ (own_ge hl) hg
    rw [one_size]
    have := hb.size
    show w3.heap.size ≤ w5.heap.size + 1
    omega

set_option maxHeartbeats 8000000 in
set_option maxRecDepth 100000 in
theorem files_any (B : Nat) (w : World) (Y : Lay) (D : Dk) (h : DiskAt B w Y D) (hfit : fits D.files.length D.now) (hnow : D.now.length ≤ 4096) :
    Calls Try.prog 7 #[ptr Y.g] w (FilesPost D w) := by
  obtain ⟨i0, hi, hz0, hz1, hz2⟩ := info_parts infoTold
  have c3 : w.cell? ⟨Y.g, 3, none⟩ = some (.map (some Y.bn)) := h.cell 3
  have KE := Lib.hid (Try.keys (some Y.bn) w)
  have SK := Lib.hid (Try.sortedKeys Y.bn 1000000 _ _ w h.now (by rw [toD_size]; unfold maxLen; omega) (by rw [toD_size]; omega))
  have H := Lib.hid h
  have hgl : Y.g < w.heap.size := lt_of_heap h.disk
  have hnl := names_length D.now
  have HSN : Hid (∀ k ∈ names D.now, k.length ≤ maxLen) := Lib.hid (fun k hk => names_size h.now hk)
  clear h
  unfold ptr
  go_enter Try.func7, Try.ntmps7
  go_wp2_with (go_at_call 29; refine KE.out.mono ?_; rintro e w2 ⟨rfl, rfl⟩)
  refine SK.out.mono ?_
  rintro e w3 ⟨v, ss, rfl, hp, ho, _, hb⟩
  rw [names_of hp] at ho
  have hlen : ss.length = (names D.now).length := by rw [← names_of hp, List.length_mergeSort]
  rw [hlen] at ho
  have hb1 : Below w.heap.size w w3 := by
    have hb0 : Below w.heap.size w (w.alloc (.cells #[.map (some Y.bn)] 59)) := (Below.refl _ _).alloc (Nat.le_refl _) _
    exact hb0.trans (hb.mono (by rw [one_size]; omega))
  have h3 := H.out.below hb1
  obtain ⟨an, cn, rfl⟩ := row_slice ho
  have hs3 : w.heap.size ≤ w3.heap.size := hb1.size
  have HO := Lib.hid ho; have HB1 := Lib.hid hb1; have H3 := Lib.hid h3
  clear ho hb hb1 h3 hlen hp SK KE H c3
  obtain ⟨N, hN⟩ : ∃ N, N = (names D.now).length := ⟨_, rfl⟩
  rw [← hN] at HO hnl
  have hN4 : N ≤ 4096 := by omega
  have HN := Lib.hid hN
  clear hN hnl hnow
  rw [← HN.out]
  go_wp2
  go_loopw [3, 16] (fun s3 s16 wr => ∃ (k : Nat) (vl : Value), k ≤ N ∧ s16 = .int .i64 k ∧ vl = s3 ∧ Hid (wr.ownsRow w3.heap.size 38 3 vl k (((names D.now).take k).map (fileOf D) |>.flatMap toldCells)) ∧ Hid (Below w3.heap.size w3 wr)) (fun _ s16 _ => N - (intOf s16).toNat)
  case atStart => exact ⟨0, _, by omega, rfl, rfl, Lib.hid ⟨by simp, .inl ⟨rfl, rfl⟩⟩, Lib.hid (Below.refl _ _)⟩
  case round =>
    obtain ⟨k, vl, hk, rfl, rfl, HL, HW⟩ := hrel
    by_cases hlt : k < N
    · obtain ⟨x, hx⟩ : ∃ x, (names D.now)[k]? = some x := ⟨_, List.getElem?_eq_getElem (by rw [← HN.out]; exact hlt)⟩
      obtain ⟨gn, cpn, hvn, hgn, _, hcn⟩ := row_cells HO.out (by omega)
      injection hvn with e1 e2 e3
      subst e1
      subst e3
      have hcx : wr.cell? ⟨gn, k, none⟩ = some (.string ⟨x.toArray⟩) := by
        rw [HW.out.cell (p := ⟨gn, k, none⟩) hgn]
        exact hcn k _ (by rw [List.getElem?_map, hx]; rfl)
      obtain ⟨n, hgm⟩ := names_get (List.mem_of_getElem? hx)
      have hnf : n < D.files.length := fits_get hfit hgm
      have hr := H3.out.below HW.out
      obtain ⟨f, hf⟩ : ∃ f, D.files[n]? = some f := ⟨_, List.getElem?_eq_getElem hnf⟩
      obtain ⟨p, hp⟩ : ∃ p, Y.fs[n]? = some p := ⟨_, List.getElem?_eq_getElem (by rw [hr.lenF]; exact hnf)⟩
      obtain ⟨gf, cap, cur, hvf, hgf, hcur⟩ := file_cell hr hp
      obtain ⟨k1, k2⟩ := hr.each n p f hp hf
      obtain ⟨pa, pc, hpv⟩ := row_slice k2
      have hfo : fileOf D x = (x, f.data, f.safe) := by unfold fileOf; rw [hgm]; show (x, (D.files.getD n ⟨[], 0⟩).data, (D.files.getD n ⟨[], 0⟩).safe) = _; rw [List.getD, hf]; rfl
      have hsx : (⟨x.toArray⟩ : ByteArray).size ≤ maxLen := by rw [Lib.size_eq, ba_data]; exact HSN.out x (List.mem_of_getElem? hx)
      have d2 : wr.cell? ⟨Y.g, 2, none⟩ = some Y.vf := hr.cell 2
      have d3 : wr.cell? ⟨Y.g, 3, none⟩ = some (.map (some Y.bn)) := hr.cell 3
      have hlk : ∀ q, (Instr.lookup 59 (.map (some Y.bn)) (.string ⟨x.toArray⟩) false).run Try.prog (wr.drewN q) = .ok (.int .i64 (n : Int)) (wr.drewN q) := fun q => by
        have := look_run1 (hr.drewN q).now ⟨x.toArray⟩ hsx
        rw [ba_data, hgm] at this
        exact this
      rw [hvf] at d2
      have hcf : wr.cell? ⟨gf, n, none⟩ = some (.pointer (some ⟨p.1, 0, none⟩)) := (cell_of_heap hgf).trans hcur
      have hni : (n : Int) < (D.files.length : Int) := by omega
      have hp1 : p.1 < wr.heap.size := lt_of_heap k1
      have HR := Lib.hid hr; have HX := Lib.hid hx; have HFO := Lib.hid hfo; have K1 := Lib.hid k1; have K2 := Lib.hid k2; have HPV := Lib.hid hpv
      have hki : (k : Int) < (N : Int) := by omega
      clear hr hx hfo k1 k2 hpv hf hp hvf hgf hcur hgm hcn hfit hsx
      go_wp2
      go_quiet (fail)
      go_wp2
      have HL5 : Hid ((wr.drewN nq).ownsRow w3.heap.size 38 3 vl k (((names D.now).take k).map (fileOf D) |>.flatMap toldCells)) := HL
      have HW5 : Hid (Below w3.heap.size w3 (wr.drewN nq)) := Lib.hid (HW.out.trans ⟨rfl, rfl, rfl, Nat.le_refl _, fun _ _ => rfl⟩)
      have K15 : Hid ((wr.drewN nq).heap[p.1]? = some (.cells #[p.2, .int .i64 (f.safe : Int)] 71)) := K1
      have K25 : Hid ((wr.drewN nq).ownsRow B 5 1 p.2 f.data.length (Lib.byteCells f.data)) := K2
      have hp5 : p.1 < (wr.drewN nq).heap.size := hp1
      clear hlk hcf d2 d3 hcx HL HW K1 K2 HR hp1
      generalize wr.drewN nq = w5 at HL5 HW5 K15 K25 hp5 ⊢
      have hcv := conv_row (w := w5.drew) K25.out.drew
      have b0 : w5.cell? ⟨p.1, 0, none⟩ = some p.2 := cell_of_heap K15.out
      have b1 : w5.cell? ⟨p.1, 1, none⟩ = some (.int .i64 (f.safe : Int)) := cell_of_heap K15.out
      rw [HPV.out] at hcv b0
      go_region_law (first
        | (refine step_append_lies _ rfl (.tmp 32) (.tmp 44) 28 rfl w3.heap.size 38 i0 (.agg #[.string ⟨#[]⟩, .string ⟨#[]⟩, .int .i64 0]) 3 40 Try.underlying28 hi hz0 hz1 hz2 rfl (by decide) vl k _ (by simp [Act.eval, Act.put]) ((HL5.out.drew).alloc _) ⟨w5.heap.size, 0, none⟩ 1 1 [.string ⟨x.toArray⟩, .string ⟨f.data.toArray⟩, .int .i64 (f.safe : Int)] (by simp [Act.eval, Act.put]) rfl (cell_row_new w5.drew _ _) (by intro u hu; simp at hu; rcases hu with rfl | rfl | rfl <;> rfl) (by decide) (by unfold maxLen; omega) (by omega) (by have := HW5.out.size; show _ ≤ (w5.drew.alloc _).heap.size; rw [one_size]; show w3.heap.size ≤ w5.heap.size + 1; omega) _ rfl ?_
           intro g6 cap6 w6 hown6 hgrow6 hat6 hlt6))
      all_goals go_wp2
      all_goals go_roundw
      all_goals first
        | (simp [intOf]; omega)
        | exact ⟨k + 1, _, by omega, by go_num, rfl, (files_next HX.out HFO.out HL5.out HW5.out hown6 hgrow6).1, (files_next HX.out HFO.out HL5.out HW5.out hown6 hgrow6).2⟩
    · obtain rfl : k = N := by omega
      go_wp2
      go_ret
      have hl := HL.out
      rw [List.take_of_length_le (by rw [HN.out]; exact Nat.le_refl _)] at hl
      refine ⟨vl, rfl, ?_, HB1.out.trans (HW.out.mono hs3)⟩
      have hfl : (filesN D).length = k := by rw [filesN, List.length_map, HN.out]
      rw [hfl]
      exact row_mono hl hs3
end Go.Proofs.Ytcfdfpjemonhoaa.Dk
