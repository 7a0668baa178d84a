/-
  The contract of the disk's Restart.
-/
import Derived.Test.YtcfdfpjemonhoaaDkRestartKit
import Derived.Laws.EntriesVeiled
namespace Go.Proofs.Ytcfdfpjemonhoaa.Dk
open Go.RowKit Go.Maps Go.WideMaps

theorem below_map {w w5 w6 : World} {B b : Nat} (hb : Below B w w5) (hB : B ≤ w5.heap.size) (hg : w5.grownBy w6 (some b)) (h : B ≤ b) : Below B w w6 :=
  ⟨hg.os.trans hb.os, hg.tape.trans hb.tape, hg.output.trans hb.output, Nat.le_trans hb.size hg.size, fun k hk => by
    rw [hg.block k (by omega) (fun e => by injection e with e; omega)]; exact hb.block k hk⟩

theorem cut_next {B : Nat} {w5 W : World} {Y Y' : Lay} {D : Dk} {fs' : List Fl} {nums : List Nat} {j n : Nat} {p : Nat × Value} {f : Fl} {pa : Option Addr} {pc : Nat} {kv : Int} (hdk : DiskAt B W Y' { D with files := fs' }) (hp : Y'.fs[n]? = some p) (hf : fs'[n]? = some f)
    (k1 : W.heap[p.1]? = some (.cells #[p.2, .int .i64 (f.safe : Int)] 71)) (k2 : W.ownsRow B 5 1 p.2 f.data.length (Lib.byteCells f.data)) (hpv : p.2 = .slice pa f.data.length pc) (n' : Nat) (hn1 : n' ≤ f.data.length)
    (hkv : kv = keepAt D.crash.2 j) (hn4 : cutTo f kv = ⟨f.data.take n', n'⟩) (hfs : fs'.length = D.files.length ∧ ∀ f ∈ fs', f.data.length ≤ 134217728 ∧ f.safe ≤ f.data.length) (hcu : cutAll D.crash.2 0 nums D.files = cutAll D.crash.2 j (nums.drop j) fs')
    (hnk : nums[j]? = some n) (hg : Y'.g = Y.g ∧ (∀ b ∈ Y'.blocks, b ∈ Y.blocks) ∧ Y'.kn = Y.kn ∧ Y'.kc = Y.kc) (ht : Turn Y.blocks w5 W) :
    Hid (DiskAt B ((W.drew.setCell ⟨p.1, 0, none⟩ (.slice pa n' pc)).setCell ⟨p.1, 1, none⟩ (.int .i64 (n' : Int))) { Y' with fs := Y'.fs.set n (p.1, .slice pa n' pc) } { D with files := fs'.set n ⟨f.data.take n', n'⟩ }) ∧
      Hid (cutAll D.crash.2 0 nums D.files = cutAll D.crash.2 (j + 1) (nums.drop (j + 1)) (fs'.set n ⟨f.data.take n', n'⟩)) ∧
      Hid ((fs'.set n (⟨f.data.take n', n'⟩ : Fl)).length = D.files.length ∧ ∀ q ∈ fs'.set n (⟨f.data.take n', n'⟩ : Fl), q.data.length ≤ 134217728 ∧ q.safe ≤ q.data.length) ∧
      Hid (({ Y' with fs := Y'.fs.set n (p.1, .slice pa n' pc) } : Lay).g = Y.g ∧ (∀ b ∈ ({ Y' with fs := Y'.fs.set n (p.1, .slice pa n' pc) } : Lay).blocks, b ∈ Y.blocks) ∧ Y'.kn = Y.kn ∧ Y'.kc = Y.kc) ∧
      Hid (Turn Y.blocks w5 ((W.drew.setCell ⟨p.1, 0, none⟩ (.slice pa n' pc)).setCell ⟨p.1, 1, none⟩ (.int .i64 (n' : Int)))) := by
  have hl := hfs.2 f (List.mem_of_getElem? hf)
  have hne : ∀ b, b ≠ p.1 → ((W.drew.setCell ⟨p.1, 0, none⟩ (.slice pa n' pc)).setCell ⟨p.1, 1, none⟩ (.int .i64 (n' : Int))).heap[b]? = W.heap[b]? := fun b hb => (Below.heap_setCell _ _ _ _ hb).trans (Below.heap_setCell _ _ _ _ hb)
  have hob : ob (.slice pa n' pc) = ob p.2 := by rw [hpv]; cases pa <;> rfl
  have hpn : p.1 ∉ ob p.2 := hdk.fd_ne hp
  have hlen : (f.data.take n').length = n' := by rw [List.length_take]; omega
  refine ⟨Lib.hid ?_, Lib.hid ?_, Lib.hid ?_, Lib.hid ?_, Lib.hid ?_⟩
  · refine hdk.fileSet hp hf (.slice pa n' pc) ⟨f.data.take n', n'⟩ (by simp [World.setCell]) (fun b hb hnb => hne b (by intro e; subst e; exact hnb (by simp [fb]))) ?_ ?_ (fun b hb => .inl (by rw [← hob]; exact hb))
    · rw [setCell_heap _ _ _ _ _ _ (setCell_heap _ _ _ _ _ _ (show W.drew.heap[p.1]? = _ from k1))]; rfl
    · rw [hpv] at k2
      have h1 := row_short k2 n' hn1
      have e1 : (Lib.byteCells f.data).take n' = Lib.byteCells (f.data.take n') := by simp [Lib.byteCells, List.map_take]
      rw [e1] at h1
      show World.ownsRow _ B _ 1 _ (f.data.take n').length (Lib.byteCells (f.data.take n'))
      rw [hlen]
      exact row_kept h1 (fun b hb _ => hne b (by intro e; subst e; rw [hob] at hb; exact hpn hb))
  · rw [hcu]
    have hd : nums.drop j = n :: nums.drop (j + 1) := by
      have hj : j < nums.length := (List.getElem?_eq_some_iff.1 hnk).1
      rw [List.drop_eq_getElem_cons hj, (List.getElem?_eq_some_iff.1 hnk).2]
    rw [hd, cutAll]
    have : fs'.getD n ⟨[], 0⟩ = f := by rw [List.getD, hf]; rfl
    rw [this, ← hkv, hn4]
  · refine ⟨by rw [List.length_set]; exact hfs.1, fun q hq => ?_⟩
    rcases List.mem_or_eq_of_mem_set hq with k | k
    · exact hfs.2 q k
    · rw [k]; exact ⟨by show (f.data.take n').length ≤ _; omega, by show n' ≤ (f.data.take n').length; omega⟩
  · refine ⟨hg.1, fun b hb => ?_, hg.2.2⟩
    rcases blocks_set hp (.slice pa n' pc) b hb with k | k
    · exact hg.2.1 b k
    · rw [hob] at k; exact hg.2.1 b (in_blocks (mem_fd hp k))
  · have hm : p.1 ∈ Y.blocks := hg.2.1 _ (in_blocks (mem_fs hp))
    exact (ht.drew.setCell (.inl hm) _).setCell (.inl hm) _

/-- The two directories are other ones, and no change is kept. -/
theorem DiskAt.dirs2 {B : Nat} {w w' : World} {Y : Lay} {D : Dk} (h : DiskAt B w Y D) (b1 b2 : Nat) (m1 m2 : DM)
    (hb : ∀ b, b < w.heap.size → b ≠ Y.g → w'.heap[b]? = w.heap[b]?)
    (hg : w'.heap[Y.g]? = some (.cells (cellsOf { Y with bn := b1, bs := b2, vc := .slice none 0 0 } D) 63))
    (h1 : b1 ∉ Y.blocks) (hB1 : B ≤ b1) (h2 : w.heap.size ≤ b2) (hne : b1 ≠ b2)
    (o1 : w'.ownsMap Try.prog 9 (plainElem Try.prog 3) b1 1000000 (toD m1)) (o2 : w'.ownsMap Try.prog 9 (plainElem Try.prog 3) b2 1000000 (toD m2))
    (hkn : KeepAt w' ({ Y with bn := b1, bs := b2, vc := .slice none 0 0, cv := [] } : Lay).blocks Y.kn D.next.2) (hkc : KeepAt w' ({ Y with bn := b1, bs := b2, vc := .slice none 0 0, cv := [] } : Lay).blocks Y.kc D.crash.2) :
    DiskAt B w' { Y with bn := b1, bs := b2, vc := .slice none 0 0, cv := [] } { D with now := m1, safe := m2, chs := [] } := by
  have hlt := h.lt
  have hnd := h.nodup
  simp only [Lay.blocks, Lay.rest, List.nodup_cons] at hnd
  obtain ⟨n1, n2, n3, n4⟩ := hnd
  have hgl : Y.g < w.heap.size := hlt _ (mem_g Y)
  have hrest : ∀ b, b ∈ ob Y.vf ∨ b ∈ Y.fs.flatMap fb → b ∈ Y.blocks := by
    intro b hm
    simp only [Lay.blocks, Lay.rest, List.mem_cons, List.mem_append]
    exact .inr (.inr (.inr (hm.imp id .inr)))
  have hbl' : ({ Y with bn := b1, bs := b2, vc := .slice none 0 0, cv := [] } : Lay).blocks = Y.g :: b1 :: b2 :: (ob Y.vf ++ Y.fs.flatMap fb) := by
    simp [Lay.blocks, Lay.rest, ob, Value.ownBlock]
  refine ⟨hg, o1, o2, row_kept h.files (fun b hm hlt' => hb b hlt' (h.ne_g (mem_vf hm))), ⟨rfl, .inl ⟨rfl, rfl⟩⟩, ?_, ?_, hkn, hkc, h.lenF, ?_, ?_⟩
  · intro i p f k1 k2
    obtain ⟨e1, e2⟩ := h.each i p f k1 k2
    exact ⟨(hb _ (lt_of_heap e1) (h.ne_g (mem_fs k1))).trans e1, row_kept e2 (fun b hm hlt' => hb b hlt' (h.ne_g (mem_fd k1 hm)))⟩
  · intro i v c k1 k2; simp at k1
  · rw [hbl']
    have r1 : ∀ b ∈ ob Y.vf ++ Y.fs.flatMap fb, b ∈ ob Y.vf ++ (ob Y.vc ++ Y.fs.flatMap fb) := by
      intro b hm
      simp only [List.mem_append] at hm ⊢
      exact hm.imp id .inr
    have r2 : (ob Y.vf ++ Y.fs.flatMap fb).Nodup := by
      rw [List.nodup_append] at n4 ⊢
      obtain ⟨p1, p2, p3⟩ := n4
      rw [List.nodup_append] at p2
      exact ⟨p1, p2.2.1, fun x hx y hy => p3 x hx y (List.mem_append_right _ hy)⟩
    have r3 : ∀ b ∈ ob Y.vf ++ Y.fs.flatMap fb, b < w.heap.size := fun b hm => hlt b (hrest b (List.mem_append.1 hm))
    refine List.nodup_cons.2 ⟨?_, List.nodup_cons.2 ⟨?_, List.nodup_cons.2 ⟨fun hm => by have := r3 _ hm; omega, r2⟩⟩⟩
    · intro hm
      simp only [List.mem_cons] at hm
      rcases hm with e | e | hm
      · exact h1 (by rw [← e]; exact mem_g Y)
      · omega
      · exact n1 (List.mem_cons_of_mem _ (List.mem_cons_of_mem _ (r1 _ hm)))
    · intro hm
      rcases List.mem_cons.1 hm with e | hm
      · exact hne e
      · exact h1 (hrest _ (List.mem_append.1 hm))
  · intro b hm
    rw [hbl'] at hm
    simp only [List.mem_cons, List.mem_append] at hm
    have hBg := h.base Y.g (mem_g Y)
    rcases hm with rfl | rfl | rfl | hm
    · exact hBg
    · exact hB1
    · omega
    · exact h.base b (hrest b hm)

set_option maxHeartbeats 16000000 in
set_option maxRecDepth 100000 in
theorem restart_any (B : Nat) (w : World) (Y : Lay) (D : Dk) (h : DiskAt B w Y D) (ok : Ok D) (hrl : ∀ j, (replay D j).length ≤ 4096) (hnm : ∀ c ∈ D.chs, c.names) :
    Calls Try.prog 20 #[ptr Y.g] w (OpPost B Y w (.int .i64 (restartN D).1) (restartN D).2) := by
  have c12 : w.cell? ⟨Y.g, 12, none⟩ = some (.bool D.down) := h.cell 12
  have H := Lib.hid h
  cases hd : D.down with
  | false =>
    have e1 : restartN D = (5, D) := by unfold restartN; rw [hd]; rfl
    rw [e1]
    rw [hd] at c12
    clear e1 h
    unfold ptr
    go_enter Try.func20, Try.ntmps20
    go_wp2
    go_ret
    exact opPost_same _ H.out (Turn.refl [] _) (by simp) rfl rfl
  | true =>
    rw [hd] at c12
    obtain ⟨R, hR⟩ : ∃ R, R = restartN D := ⟨_, rfl⟩
    have e1 : R = (0, restarted D (D.crash.1 % ((D.chs.length : Int) + 1)).toNat) := by
      rw [hR]; unfold restartN; rw [hd]; rfl
    rw [← hR]
    have hm0 := Int.emod_nonneg D.crash.1 (show ((D.chs.length : Int) + 1) ≠ 0 by omega)
    have hm1 := Int.emod_lt_of_pos D.crash.1 (show 0 < ((D.chs.length : Int) + 1) by omega)
    obtain ⟨m, hm⟩ : ∃ m : Nat, m = (D.crash.1 % ((D.chs.length : Int) + 1)).toNat := ⟨_, rfl⟩
    have hmi : D.crash.1 % ((D.chs.length : Int) + 1) = (m : Int) := by omega
    have hmc : m ≤ D.chs.length := by omega
    rw [← hm] at e1
    have E1 := Lib.hid e1
    have hnc := ok.nchs
    clear e1 hR hm hm0 hm1
    have c4 : w.cell? ⟨Y.g, 4, none⟩ = some (.map (some Y.bs)) := h.cell 4
    obtain ⟨va, vcap, hvc⟩ := row_slice h.chs
    have c5 : w.cell? ⟨Y.g, 5, none⟩ = some Y.vc := h.cell 5
    rw [hvc] at c5
    have c10 : w.cell? ⟨Y.g, 10, none⟩ = some (.int .i64 D.crash.1) := h.cell 10
    have hgl : Y.g < w.heap.size := lt_of_heap h.disk
    have hchs := h.chs
    rw [hvc] at hchs
    have HCH := Lib.hid hchs; have HVC := Lib.hid hvc; have HLT := Lib.hid h.lt
    have MC := Lib.hid (Try.mapClone 9 (plainElem (H := Unit) Try.prog 3) Y.bs 1000000 _ w h.safe)
    have w1e : IntKind.i64.wrap ((D.chs.length : Int) + 1) = (D.chs.length : Int) + 1 := by rw [IntKind.wrap_i64]; omega
    have OK := Lib.hid ok
    clear h hchs hvc ok
    unfold ptr
    go_enter Try.func20, Try.ntmps20
    go_wp2_with (go_at_call 38; refine MC.out.mono ?_; rintro e w1 ⟨rfl, o2, o1, hb⟩; have g2 := (hb.block _ hgl).trans H.out.disk; have d5 : w1.cell? ⟨Y.g, 5, none⟩ = some Y.vc := cell_of_heap g2; rw [HVC.out] at d5; have d10 : w1.cell? ⟨Y.g, 10, none⟩ = some (.int .i64 D.crash.1) := cell_of_heap g2; have O2 := Lib.hid o2; have HB := Lib.hid hb; clear g2 o1 o2 hb)
    clear c12 c4 c5 c10 MC
    have hmv : m ≤ vcap := Nat.le_trans hmc (row_cap HCH.out)
    have hmo : ∀ q, Calls Try.prog 40 #[.int .i64 D.crash.1, .int .i64 ((D.chs.length : Int) + 1)] (w1.drewN q) fun e w' => e = .returned (.int .i64 (m : Int)) ∧ w' = w1.drewN q := fun q => by
      have := mod_any D.crash.1 ((D.chs.length : Int) + 1) (by omega) (by omega) (w1.drewN q)
      rw [hmi] at this
      exact this
    have HMO := Lib.hid hmo
    clear hmo hmi
    go_quiet (first | (go_at_call 40; exact Calls.quiet_of_same (HMO.out _)))
    have O3 : Hid (Dir (w1.drewN nq) w.heap.size 1000000 D.safe) := O2
    have HB3 : Hid (Below w.heap.size w (w1.drewN nq)) := Lib.hid (HB.out.trans ⟨rfl, rfl, rfl, Nat.le_refl _, fun _ _ => rfl⟩)
    clear HMO O2 HB d5 d10
    generalize w1.drewN nq = w2 at O3 HB3 ⊢
    go_wp2
    go_loopw [43] (fun s43 wr => ∃ k : Nat, k ≤ m ∧ s43 = .int .i64 k ∧ Hid (Dir wr w.heap.size 1000000 (replay D k)) ∧ Hid (Below w.heap.size w wr)) (fun s43 _ => m - (RowKit.intOf s43).toNat)
    case atStart => exact ⟨0, by omega, rfl, O3, HB3⟩
    case round =>
      obtain ⟨k, hk, rfl, HD, HW⟩ := hrel
      have hr := H.out.below HW.out
      by_cases hlt : k < m
      · obtain ⟨gv, cv, hv, hgv, _, hcell⟩ := row_cells HCH.out (by omega)
        injection hv with e1 e2 e3
        subst e1
        subst e3
        have hlc : k < D.chs.length := by omega
        obtain ⟨c, hc⟩ : ∃ c, D.chs[k]? = some c := ⟨_, List.getElem?_eq_getElem hlc⟩
        obtain ⟨fv, hf⟩ : ∃ fv, Y.cv[k]? = some fv := ⟨_, List.getElem?_eq_getElem (by have := H.out.chs.1; omega)⟩
        have hcl := (H.out.clos k fv c hf hc).kept (w' := wr) (X' := [w.heap.size]) (fun b hb _ => HW.out.block b hb) (fun b hb hm => by simp at hm; omega)
        have hcv : wr.cell? ⟨gv, k, none⟩ = some fv := by
          rw [HW.out.cell (p := ⟨gv, k, none⟩) hgv]
          exact hcell k _ hf
        have hcm := List.mem_of_getElem? hc
        have hsz := HW.out.size
        have ha := one_size wr (.cells #[fv] 83)
        have hD1 : Dir (wr.alloc (.cells #[fv] 83)) w.heap.size 1000000 (replay D k) := (HD.out.alloc _)
        have hb1 : Below wr.heap.size wr (wr.alloc (.cells #[fv] 83)) := (Below.refl _ _).alloc (Nat.le_refl _) _
        obtain ⟨caps, hfv, hcall⟩ := clos_call (w := wr.alloc (.cells #[fv] 83)) (X := [w.heap.size]) (hcl.kept (fun b hb _ => hb1.block b hb) (fun b _ hm => hm)) w.heap.size (by simp) (replay D k) hD1 (by have := hrl k; omega) D.files.length OK.out.nfiles (replay_fits OK.out k) (OK.out.chs c hcm) (hnm c hcm)
        have hent : ∀ args w, (callFunc (clFn c) args).run Try.prog w = .ok (.enter (clFn c) args) w := by
          cases c
          · exact enters' Try.func33 (by kernel_rfl) rfl
          · exact enters' Try.func35 (by kernel_rfl) rfl
          · exact enters' Try.func36 (by kernel_rfl) rfl
        rw [hfv] at hcv hcall ha
        have HC := Lib.hid hcall; have HCC := Lib.hid hc; have HA := Lib.hid ha
        clear hcall hcl hD1 hcell hfv hf hc hr ha hb1
        go_wp2_with fail
        refine HC.out.mono ?_
        rintro e w4 ⟨rfl, hd4, hg4⟩
        have hd4' := Lib.hid hd4; have hg4' := Lib.hid hg4
        clear hd4 hg4 HC
        go_wp2
        go_roundw
        case rel =>
          refine ⟨k + 1, by omega, by go_num, ?_, ?_⟩
          · rw [replay_next HCC.out]; exact hd4'
          · exact Lib.hid (below_map ((HW.out).alloc HW.out.size _) (by rw [HA.out]; omega) hg4'.out (Nat.le_refl _))
        case measure => simp [RowKit.intOf]; omega
      · obtain rfl : k = m := by omega
        have hl4 := hrl k
        have KE := Lib.hid (Try.values (some w.heap.size) wr)
        have SV := Lib.hid (Try.sortedValues w.heap.size 1000000 _ wr HD.out (by rw [toD_size]; unfold maxLen; omega) (by rw [toD_size]; omega))
        go_wp2_with (go_at_call 42; refine KE.out.mono ?_; rintro e w4 ⟨rfl, rfl⟩)
        refine SV.out.mono ?_
        rintro e w5 ⟨v5, ss, rfl, ⟨ps, hps, rfl⟩, ho5, _, hb5⟩
        rw [vals_of (dir_nodup HD.out) hps] at ho5
        have hlen5 : (ps.map (·.2)).length = (numsOf (replay D k)).length := by
          have := congrArg List.length (vals_of (dir_nodup HD.out) hps)
          simpa [List.length_mergeSort] using this
        rw [hlen5] at ho5
        have hb4 : Below wr.heap.size wr w5 := by
          have hb0 : Below wr.heap.size wr (wr.alloc (.cells #[.map (some w.heap.size)] 59)) := (Below.refl _ _).alloc (Nat.le_refl _) _
          exact hb0.trans (hb5.mono (by rw [one_size]; omega))
        have hd5 : Dir w5 w.heap.size 1000000 (replay D k) := ownsMap_block HD.out (hb4.block _ HD.out.lt)
        have hw5 : Below w.heap.size w w5 := HW.out.trans (hb4.mono HW.out.size)
        have hfit := replay_fits OK.out k
        obtain ⟨nums, hnums⟩ : ∃ nums, nums = numsOf (replay D k) := ⟨_, rfl⟩
        have hnl : nums.length ≤ 4096 := by rw [hnums, numsOf_length]; omega
        have HNF : Hid (∀ n ∈ nums, n < D.files.length) := Lib.hid (fun n hn => numsOf_fits hfit (by rw [← hnums]; exact hn))
        rw [← hnums] at ho5
        obtain ⟨a5, cp5, rfl⟩ := row_slice ho5
        have hge5 := row_ge ho5
        have hszr := HW.out.size
        have HO5 := Lib.hid ho5; have HD5 := Lib.hid hd5; have HW5 := Lib.hid hw5; have HNU := Lib.hid hnums; have HRL := Lib.hid hrl; have HNM := Lib.hid hnm; have HGE := Lib.hid hge5
        have H5 := Lib.hid (H.out.below hw5)
        have hs5 : w.heap.size ≤ w5.heap.size := hw5.size
        have hone := one_size wr (.cells #[.map (some w.heap.size)] 59)
        have HON := Lib.hid hone
        have OKL := OK.out.lens
        have HOKL := Lib.hid OKL
        clear ho5 hd5 hw5 hb4 hb5 hnums KE SV hr hps hlen5 HD HW hrl hnm hl4 hge5 hone OKL hfit
        go_wp2
        go_loopw [56] (fun s56 wq => ∃ (j : Nat) (Y' : Lay) (fs' : List Fl), j ≤ nums.length ∧ s56 = .int .i64 j ∧ Hid (DiskAt B wq Y' { D with files := fs' }) ∧ Hid (cutAll D.crash.2 0 nums D.files = cutAll D.crash.2 j (nums.drop j) fs') ∧ Hid (fs'.length = D.files.length ∧ ∀ f ∈ fs', f.data.length ≤ 134217728 ∧ f.safe ≤ f.data.length) ∧ Hid (Y'.g = Y.g ∧ (∀ b ∈ Y'.blocks, b ∈ Y.blocks) ∧ Y'.kn = Y.kn ∧ Y'.kc = Y.kc) ∧ Hid (Turn Y.blocks w5 wq)) (fun s56 _ => nums.length - (RowKit.intOf s56).toNat)
        case atStart => exact ⟨0, Y, D.files, by omega, rfl, H5, Lib.hid rfl, Lib.hid ⟨rfl, HOKL.out⟩, Lib.hid ⟨rfl, fun b hb => hb, rfl, rfl⟩, Lib.hid (Turn.refl _ _)⟩
        case round =>
          obtain ⟨j, Y', fs', hj, rfl, HDQ, HCU, HFS, HG, HT⟩ := hrel
          by_cases hlt2 : j < nums.length
          · obtain ⟨n, hnk⟩ : ∃ n, nums[j]? = some n := ⟨_, List.getElem?_eq_getElem hlt2⟩
            have hnf : n < fs'.length := by rw [HFS.out.1]; exact HNF.out n (List.mem_of_getElem? hnk)
            obtain ⟨g5, q5, hv5, hg5, hB5, hc5⟩ := row_cells HO5.out (by omega)
            injection hv5 with e1 e2 e3
            subst e1
            subst e3
            have hg5n : g5 ∉ Y.blocks := fun hm => by
              have h1 := HLT.out _ hm
              have h2 := HON.out
              omega
            have hcn : wr.cell? ⟨g5, j, none⟩ = some (.int .i64 (n : Int)) := by
              rw [World.cell?_of_block (a := ⟨g5, j, none⟩) (HT.out.block g5 hg5 hg5n)]
              exact hc5 j _ (by rw [List.getElem?_map, List.getElem?_map, hnk]; rfl)
            have hr := HDQ.out
            obtain ⟨f, hf⟩ : ∃ f, fs'[n]? = some f := ⟨_, List.getElem?_eq_getElem hnf⟩
            obtain ⟨p, hp⟩ : ∃ p, Y'.fs[n]? = some p := ⟨_, List.getElem?_eq_getElem (by rw [hr.lenF]; exact hnf)⟩
            obtain ⟨gf, cap, cur, hvf, hgf, hcur⟩ := file_cell hr hp
            obtain ⟨k1, k2⟩ := hr.each n p f hp hf
            obtain ⟨pa, pc, hpv⟩ := row_slice k2
            obtain ⟨hfl, hfs⟩ := HFS.out.2 f (List.mem_of_getElem? hf)
            have hcf : wr.cell? ⟨gf, n, none⟩ = some (.pointer (some ⟨p.1, 0, none⟩)) := (cell_of_heap hgf).trans hcur
            have d2 : wr.cell? ⟨Y'.g, 2, none⟩ = some Y'.vf := hr.cell 2
            have d11 : wr.cell? ⟨Y'.g, 11, none⟩ = some Y'.kc := hr.cell 11
            obtain ⟨ka, kcap, hkc, hkl, hkcell⟩ := hr.kc
            rw [hvf] at d2
            rw [hkc] at d11
            rw [HG.out.1] at d2 d11
            dsimp only at d2 d11 hkcell hkl
            have hni : (n : Int) < (fs'.length : Int) := by omega
            have hji : (j : Int) < (nums.length : Int) := by omega
            have b0 : wr.cell? ⟨p.1, 0, none⟩ = some p.2 := cell_of_heap k1
            have b1 : wr.cell? ⟨p.1, 1, none⟩ = some (.int .i64 (f.safe : Int)) := cell_of_heap k1
            rw [hpv] at b0
            have HNK := Lib.hid hnk; have HP := Lib.hid hp; have HF := Lib.hid hf; have HPV := Lib.hid hpv
            clear hc5 hr hvf hgf hcur hpv hf hp hnk hkc
            by_cases hL : D.crash.2.length = 0
            · have hk0 : keepAt D.crash.2 j = 0 := by rw [keepAt, if_pos hL]
              have HDK := HDQ
              have K1 := Lib.hid k1; have K2 := Lib.hid k2
              rw [hL] at d11
              clear k1 k2 hkcell
              obtain ⟨W, hW⟩ : ∃ W, W = wr := ⟨_, rfl⟩
              subst hW
              go_wp2
              obtain ⟨n', hn1, hn2, hn3, hn4⟩ := cutTo_le f (keepAt D.crash.2 j) hfs
              have hr0 := Int.emod_nonneg (keepAt D.crash.2 j) (show ((f.data.length : Int) - f.safe + 1) ≠ 0 by omega)
              have hr1 := Int.emod_lt_of_pos (keepAt D.crash.2 j) (show 0 < ((f.data.length : Int) - f.safe + 1) by omega)
              have MO := mod_any (keepAt D.crash.2 j) ((f.data.length : Int) - f.safe + 1) (by omega) (by omega) W.drew
              obtain ⟨r, hr⟩ : ∃ r, r = keepAt D.crash.2 j % ((f.data.length : Int) - f.safe + 1) := ⟨_, rfl⟩
              rw [← hr] at MO hr0 hr1 hn3
              have a1 : IntKind.i64.wrap ((f.data.length : Int) - (f.safe : Int)) = (f.data.length : Int) - (f.safe : Int) := by rw [IntKind.wrap_i64]; omega
              have a2 : IntKind.i64.wrap ((f.data.length : Int) - (f.safe : Int) + 1) = (f.data.length : Int) - (f.safe : Int) + 1 := by rw [IntKind.wrap_i64]; omega
              have a3 : IntKind.i64.wrap ((f.safe : Int) + r) = (n' : Int) := by rw [hn3, IntKind.wrap_i64]; omega
              have hrc := row_cap (show W.ownsRow B 5 1 (.slice pa f.data.length pc) f.data.length (Lib.byteCells f.data) by rw [← HPV.out]; exact K2.out)
              have hnp : n' ≤ pc := by omega
              have MOH := Lib.hid MO; have HN4 := Lib.hid hn4
              have f0 : W.frozen? ⟨p.1, 0, none⟩ = false := frozen_of_heap K1.out
              have f1 : W.frozen? ⟨p.1, 1, none⟩ = false := frozen_of_heap K1.out
              clear MO hn4 hn3 hr hrc hn2 hr0 hr1
              obtain ⟨kv, hkv⟩ : ∃ kv, kv = keepAt D.crash.2 j := ⟨_, rfl⟩
              rw [← hkv] at MOH HN4 hk0
              have HKV := Lib.hid hkv
              clear hkv
              subst hk0
              refine wp_region_still_tail 26 (by kernel_rfl) (by kernel_rfl) ?_
              simp only [List.take_succ_cons, List.take_zero, List.drop_succ_cons, List.drop_zero]
              repeat still_step
              still_call MOH.out
              repeat still_step
              refine wpStill_nil ?_
              change wpList _ _ _ _ _ W.drew
              go_wp2
              go_roundw
              case measure => simp [RowKit.intOf]; omega
              case rel =>
                have hnext := cut_next HDK.out HP.out HF.out K1.out K2.out HPV.out n' hn1 HKV.out HN4.out HFS.out HCU.out HNK.out HG.out HT.out
                exact ⟨j + 1, _, _, by omega, by go_num, hnext.1, hnext.2.1, hnext.2.2.1, hnext.2.2.2.1, hnext.2.2.2.2⟩
            · have hkv : keepAt D.crash.2 j = D.crash.2.getD (j % D.crash.2.length) 0 := by rw [keepAt, if_neg hL]
              obtain ⟨jm, hjm⟩ : ∃ jm, jm = j % D.crash.2.length := ⟨_, rfl⟩
              have hjl0 : jm < D.crash.2.length := by rw [hjm]; exact Nat.mod_lt _ (by omega)
              have hjj : jm ≤ j := by rw [hjm]; exact Nat.mod_le _ _
              rw [← hjm] at hkv
              obtain ⟨kb, ko, rfl, hkb, _, hkcell⟩ := hkcell (by intro e; rw [e] at hL; exact hL rfl)
              have hkx : wr.cell? ⟨kb, ko + jm, none⟩ = some (.int .i64 (keepAt D.crash.2 j)) := by
                rw [hkv]
                exact hkcell _ _ (by rw [List.getD, List.getElem?_eq_getElem hjl0]; rfl)
              have hLp : (0 : Int) < (D.crash.2.length : Int) := by omega
              have hLz : ((D.crash.2.length : Int) == 0) = false := by simp; intro e; rw [e] at hL; exact hL rfl
              have hrem : ((j : Int)).tmod (D.crash.2.length : Int) = (jm : Int) := by rw [Int.tmod_eq_emod_of_nonneg (by omega), hjm]; rfl
              have hremw : IntKind.i64.wrap (jm : Int) = (jm : Int) := by rw [IntKind.wrap_i64]; omega
              have hjl : (jm : Int) < (D.crash.2.length : Int) := by omega
              obtain ⟨kv, hkve⟩ : ∃ kv, kv = keepAt D.crash.2 j := ⟨_, rfl⟩
              rw [← hkve] at hkx
              have HKVE := Lib.hid hkve
              clear hkv hjm hkve
              have HDK0 := HDQ
              have K10 := Lib.hid k1; have K20 := Lib.hid k2
              clear k1 k2 hkcell
              go_wp2
              go_quiet (fail)
              go_wp2
              have HDK : Hid (DiskAt B (wr.drewN nq) Y' { D with files := fs' }) := Lib.hid (HDK0.out.drewN nq)
              have K1 : Hid ((wr.drewN nq).heap[p.1]? = some (.cells #[p.2, .int .i64 (f.safe : Int)] 71)) := K10
              have K2 : Hid ((wr.drewN nq).ownsRow B 5 1 p.2 f.data.length (Lib.byteCells f.data)) := K20
              have b0' : (wr.drewN nq).cell? ⟨p.1, 0, none⟩ = some (.slice pa f.data.length pc) := b0
              have b1' : (wr.drewN nq).cell? ⟨p.1, 1, none⟩ = some (.int .i64 (f.safe : Int)) := b1
              have HTW : Hid (Turn Y.blocks w5 (wr.drewN nq)) := Lib.hid (HT.out.drewN nq)
              clear HDK0 K10 K20 b0 b1 hkx d2 d11 hcf hcn
              generalize wr.drewN nq = W at HDK K1 K2 b0' b1' HTW ⊢
              obtain ⟨n', hn1, hn2, hn3, hn4⟩ := cutTo_le f (kv) hfs
              have hr0 := Int.emod_nonneg (kv) (show ((f.data.length : Int) - f.safe + 1) ≠ 0 by omega)
              have hr1 := Int.emod_lt_of_pos (kv) (show 0 < ((f.data.length : Int) - f.safe + 1) by omega)
              have MO := mod_any (kv) ((f.data.length : Int) - f.safe + 1) (by omega) (by omega) W.drew
              obtain ⟨r, hr⟩ : ∃ r, r = kv % ((f.data.length : Int) - f.safe + 1) := ⟨_, rfl⟩
              rw [← hr] at MO hr0 hr1 hn3
              have a1 : IntKind.i64.wrap ((f.data.length : Int) - (f.safe : Int)) = (f.data.length : Int) - (f.safe : Int) := by rw [IntKind.wrap_i64]; omega
              have a2 : IntKind.i64.wrap ((f.data.length : Int) - (f.safe : Int) + 1) = (f.data.length : Int) - (f.safe : Int) + 1 := by rw [IntKind.wrap_i64]; omega
              have a3 : IntKind.i64.wrap ((f.safe : Int) + r) = (n' : Int) := by rw [hn3, IntKind.wrap_i64]; omega
              have hrc := row_cap (show W.ownsRow B 5 1 (.slice pa f.data.length pc) f.data.length (Lib.byteCells f.data) by rw [← HPV.out]; exact K2.out)
              have hnp : n' ≤ pc := by omega
              have MOH := Lib.hid MO; have HN4 := Lib.hid hn4
              have f0 : W.frozen? ⟨p.1, 0, none⟩ = false := frozen_of_heap K1.out
              have f1 : W.frozen? ⟨p.1, 1, none⟩ = false := frozen_of_heap K1.out
              clear MO hn4 hn3 hr hrc hn2 hr0 hr1
              refine wp_region_still_tail 26 (by kernel_rfl) (by kernel_rfl) ?_
              simp only [List.take_succ_cons, List.take_zero, List.drop_succ_cons, List.drop_zero]
              repeat still_step
              still_call MOH.out
              repeat still_step
              refine wpStill_nil ?_
              change wpList _ _ _ _ _ W.drew
              go_wp2
              go_roundw
              case measure => simp [RowKit.intOf]; omega
              case rel =>
                have hnext := cut_next HDK.out HP.out HF.out K1.out K2.out HPV.out n' hn1 HKVE.out HN4.out HFS.out HCU.out HNK.out HG.out HTW.out
                exact ⟨j + 1, _, _, by omega, by go_num, hnext.1, hnext.2.1, hnext.2.2.1, hnext.2.2.2.1, hnext.2.2.2.2⟩
          · obtain rfl : j = nums.length := by omega
            have hcu := HCU.out
            rw [List.drop_of_length_le (Nat.le_refl _)] at hcu
            change cutAll D.crash.2 0 nums D.files = fs' at hcu
            have ER : Hid (R = (0, { D with now := replay D k, safe := replay D k, chs := [], down := false, left := 0, files := fs', used := usedOf fs' (replay D k) })) := Lib.hid (by
              rw [E1.out]; unfold restarted; rw [← HNU.out, hcu])
            have hbl : w.heap.size ∉ Y.blocks := fun hm => by have := HLT.out _ hm; omega
            have hdq : Dir wr w.heap.size 1000000 (replay D k) := ownsMap_block HD5.out (HT.out.block _ HD5.out.lt hbl)
            have MC2 := Lib.hid (Try.mapClone 9 (plainElem (H := Unit) Try.prog 3) w.heap.size 1000000 _ wr hdq)
            have hglr : Y.g < wr.heap.size := by rw [← HG.out.1]; exact lt_of_heap HDQ.out.disk
            have HDR := Lib.hid hdq
            have hlrl := HRL.out k
            clear hcu hdq
            go_wp2_with (go_at_call 38; refine MC2.out.mono ?_; rintro e w7 ⟨rfl, o7, o6, hb7⟩; have g7 := (hb7.block _ (lt_of_heap HDQ.out.disk)).trans HDQ.out.disk; rw [HG.out.1] at g7; have f3 : w7.frozen? ⟨Y.g, 3, none⟩ = false := frozen_of_heap g7; have f4 : w7.frozen? ⟨Y.g, 4, none⟩ = false := frozen_of_heap g7; have f5 : w7.frozen? ⟨Y.g, 5, none⟩ = false := frozen_of_heap g7; have f7 : w7.frozen? ⟨Y.g, 7, none⟩ = false := frozen_of_heap g7; have f12 : w7.frozen? ⟨Y.g, 12, none⟩ = false := frozen_of_heap g7; have d3 : w7.cell? ⟨Y.g, 3, none⟩ = some (.map (some Y'.bn)) := cell_of_heap g7; have d4 : w7.cell? ⟨Y.g, 4, none⟩ = some (.map (some Y'.bs)) := cell_of_heap g7; have d5 : w7.cell? ⟨Y.g, 5, none⟩ = some Y'.vc := cell_of_heap g7; have d7 : w7.cell? ⟨Y.g, 7, none⟩ = some (.int .i64 (D.left : Int)) := cell_of_heap g7; have d12 : w7.cell? ⟨Y.g, 12, none⟩ = some (.bool D.down) := cell_of_heap g7; have G7 := Lib.hid g7; have O7 := Lib.hid o7; have O6 := Lib.hid o6; have HB7 := Lib.hid hb7; clear g7 o7 o6 hb7)
            have hB : B ≤ w.heap.size := by have := H.out.base Y.g (mem_g Y); omega
            obtain ⟨wa, hwa⟩ : ∃ wa, wa = (((w7.setCell ⟨Y.g, 3, none⟩ (.map (some w.heap.size))).setCell ⟨Y.g, 4, none⟩ (.map (some wr.heap.size))).setCell ⟨Y.g, 5, none⟩ (.slice none 0 0)) := ⟨_, rfl⟩
            rw [← hwa]
            have hne7 : ∀ b, b ≠ Y.g → wa.heap[b]? = w7.heap[b]? := fun b hne => by
              rw [hwa]
              exact (Below.heap_setCell _ _ _ _ hne).trans ((Below.heap_setCell _ _ _ _ hne).trans (Below.heap_setCell _ _ _ _ hne))
            have hsa : wa.heap.size = w7.heap.size := by rw [hwa]; simp [World.setCell]
            have hs7 := HB7.out.size
            have hsT := HT.out.size
            have ga : wa.heap[Y.g]? = some (.cells (cellsOf { Y' with bn := w.heap.size, bs := wr.heap.size, vc := .slice none 0 0 } { D with files := fs' }) 63) := by
              rw [hwa, setCell_heap _ _ _ _ _ _ (setCell_heap _ _ _ _ _ _ (setCell_heap _ _ _ _ _ _ G7.out))]
              simp [cellsOf]
            have htw : Turn Y.blocks w wr := (Turn.of_below (X := Y.blocks) HW5.out).trans HT.out (fun y hy => .inl hy)
            have hsame : ∀ b, b < wr.heap.size → b ≠ Y.g → wa.heap[b]? = wr.heap[b]? := fun b hlt hne => (hne7 b hne).trans (HB7.out.block b hlt)
            have hkw : ∀ b, b < w.heap.size → b ∉ Y.blocks → wa.heap[b]? = w.heap[b]? := fun b hlt hnb => (hsame b (by omega) (fun e => hnb (by rw [e]; exact mem_g Y))).trans (htw.block b hlt hnb)
            have hblk : ∀ b ∈ ({ Y' with bn := w.heap.size, bs := wr.heap.size, vc := .slice none 0 0, cv := [] } : Lay).blocks, b ∈ Y.blocks ∨ w.heap.size ≤ b := by
              intro b hm
              simp only [Lay.blocks, Lay.rest, ob, Value.ownBlock, List.mem_cons, List.mem_append] at hm
              have hsub := HG.out.2.1
              rcases hm with h | h | h | h | h | h
              · exact .inl (hsub b (by rw [h]; exact mem_g Y'))
              · exact .inr (by omega)
              · exact .inr (by omega)
              · exact .inl (hsub b (in_blocks (mem_vf h)))
              · simp at h
              · exact .inl (hsub b (by
                  simp only [Lay.blocks, Lay.rest, List.mem_cons, List.mem_append]
                  exact .inr (.inr (.inr (.inr (.inr h))))))
            have hkX : ∀ b, b < w.heap.size → b ∈ ({ Y' with bn := w.heap.size, bs := wr.heap.size, vc := .slice none 0 0, cv := [] } : Lay).blocks → b ∈ Y.blocks := fun b hlt hm => (hblk b hm).elim id (fun k => by omega)
            have hwle : w.heap.size ≤ wa.heap.size := by omega
            have hbg : w.heap.size ≠ Y.g := by omega
            have hda := HDQ.out.dirs2 (w' := wa) w.heap.size wr.heap.size (replay D k) (replay D k) (fun b hlt hne => hsame b hlt (by rw [← HG.out.1]; exact hne)) (by rw [HG.out.1]; exact ga) (fun hm => hbl (HG.out.2.1 _ hm)) hB (Nat.le_refl _) (by have := HDR.out.lt; omega)
              (ownsMap_block O6.out (hne7 _ hbg)) (ownsMap_block O7.out (hne7 _ (by omega)))
              (by rw [HG.out.2.2.1]; exact H.out.kn.kept hwle hkw hkX) (by rw [HG.out.2.2.2]; exact H.out.kc.kept hwle hkw hkX)
            have hneb : ∀ b, b ≠ Y.g → ((wa.setCell ⟨Y.g, 12, none⟩ (.bool false)).setCell ⟨Y.g, 7, none⟩ (.int .i64 0)).heap[b]? = wa.heap[b]? := fun b hne => (Below.heap_setCell _ _ _ _ hne).trans (Below.heap_setCell _ _ _ _ hne)
            have hxb : ∀ b, b < wa.heap.size → b ∉ ({ Y' with bn := w.heap.size, bs := wr.heap.size, vc := .slice none 0 0, cv := [] } : Lay).blocks → ((wa.setCell ⟨Y.g, 12, none⟩ (.bool false)).setCell ⟨Y.g, 7, none⟩ (.int .i64 0)).heap[b]? = wa.heap[b]? := fun b _ hnb => hneb b (fun e => hnb (by rw [e, ← HG.out.1]; exact mem_g _))
            have hszb : wa.heap.size ≤ ((wa.setCell ⟨Y.g, 12, none⟩ (.bool false)).setCell ⟨Y.g, 7, none⟩ (.int .i64 0)).heap.size := by simp [World.setCell]
            have hdb := hda.scalars (w' := ((wa.setCell ⟨Y.g, 12, none⟩ (.bool false)).setCell ⟨Y.g, 7, none⟩ (.int .i64 0))) Y'.kn Y'.kc { D with files := fs', now := replay D k, safe := replay D k, chs := [], down := false, left := 0 } rfl rfl rfl rfl
              (by
                dsimp only
                rw [HG.out.1, setCell_heap _ _ _ _ _ _ (setCell_heap _ _ _ _ _ _ ga)]
                simp [cellsOf])
              hszb (fun b hlt hne => hneb b (by rw [← HG.out.1]; exact hne)) (hda.kn.kept hszb hxb (fun _ _ x => x)) (hda.kc.kept hszb hxb (fun _ _ x => x))
            have RK := reckon_any B _ _ _ hdb (by rw [show fs'.length = D.files.length from HFS.out.1]; exact replay_fits OK.out k) (fun f hf => (HFS.out.2 f hf).1) (by show (replay D k).length ≤ 4097; omega)
            unfold ptr at RK
            rw [show ({ Y' with bn := w.heap.size, bs := wr.heap.size, vc := .slice none 0 0, cv := [] } : Lay).g = Y.g from HG.out.1] at RK
            have htb : Turn Y.blocks w ((wa.setCell ⟨Y.g, 12, none⟩ (.bool false)).setCell ⟨Y.g, 7, none⟩ (.int .i64 0)) := by
              rw [hwa]
              exact (((((htw.trans (Turn.of_below (X := []) HB7.out) (by simp)).setCell (.inl (mem_g Y)) _).setCell (.inl (mem_g Y)) _).setCell (.inl (mem_g Y)) _).setCell (.inl (mem_g Y)) _).setCell (.inl (mem_g Y)) _
            have HTB := Lib.hid htb; have HBLK := Lib.hid hblk
            clear hdb hda hxb hneb hkX hblk hkw hsame htw ga hne7 htb
            refine RK.mono ?_
            rintro e wz ⟨rfl, hz, htz⟩
            have HZ := Lib.hid hz; have HTZ := Lib.hid htz
            clear hz htz RK
            go_wp2
            go_ret
            rw [ER.out]
            exact ⟨_, rfl, HZ.out, HTB.out.trans HTZ.out (by intro y hy; simp at hy; subst hy; exact .inl (mem_g Y)), (by have hbk := HBLK.out; rw [HG.out.1] at hbk; exact hbk), rfl⟩
end Go.Proofs.Ytcfdfpjemonhoaa.Dk
