/-
  The contract of the disk's turn: a closure is called on the directory, kept, and the bytes are reckoned.
-/
import Derived.Test.YtcfdfpjemonhoaaDkReckon
import Derived.Maps.AppendAt
namespace Go.Proofs.Ytcfdfpjemonhoaa.Dk
open Go.RowKit Go.Maps Go.WideMaps

theorem infoChange : (Try.prog.info? 83).map (fun i => (i.zero, i.size, i.bytes)) = some (some (.agg #[.nilFunc]), 1, 8) := by kernel_rfl
theorem infoPFile : (Try.prog.info? 68).map (fun i => (i.zero, i.size, i.bytes)) = some (some (.pointer none), 1, 8) := by kernel_rfl
theorem infoFile : (Try.prog.info? 71).map (fun i => (i.zero, i.size, i.bytes)) = some (some (.agg #[.slice none 0 0, .int .i64 0]), 2, 32) := by kernel_rfl

def Ch.names : Ch → Prop
  | .put k _ => k.length ≤ maxLen
  | .ren a b => a.length ≤ maxLen ∧ b.length ≤ maxLen
  | .del k => k.length ≤ maxLen
/-- How a change may be called. -/
structure Fine (D : Dk) (c : Ch) : Prop where
  fit : c.fits D.files.length
  names : c.names

theorem enters' {P : Program} {f : FuncId} {fn : Func} {c : Code} (hf : P.funcs[f]? = some fn) (hname : (fn.name == "runtime.NumGoroutine") = false) (hb : fn.body = some c) : ∀ args w, (callFunc f args).run P w = .ok (.enter f args) w := by
  intro args w
  have h1 : fn.name ≠ "runtime.NumGoroutine" := by simpa using hname
  simp [callFunc, hf, h1, hb, mark]

/-- The directory's map has turned. -/
theorem DiskAt.nowSet {B : Nat} {w w' : World} {Y : Lay} {D : Dk} (h : DiskAt B w Y D) (m : DM) (hd : Dir w' Y.bn 1000000 m) (hg : w.grownBy w' (some Y.bn)) : DiskAt B w' Y { D with now := m } := by
  have hnd := h.nodup
  simp only [Lay.blocks, Lay.rest, List.nodup_cons] at hnd
  obtain ⟨n1, n2, n3, n4⟩ := hnd
  have hne : ∀ b, b ≠ Y.bn → b < w.heap.size → w'.heap[b]? = w.heap[b]? := fun b hne hlt => hg.block b hlt (by intro e; injection e with e; exact hne e)
  have hx : ∀ b, b < w.heap.size → b ∉ Y.blocks → w'.heap[b]? = w.heap[b]? := fun b hlt hnb => hne b (fun e => hnb (by rw [e]; exact in_blocks (mem_bn Y))) hlt
  have hin : ∀ b, b ∈ ob Y.vf ∨ b ∈ ob Y.vc ∨ b ∈ Y.fs.flatMap fb → b ≠ Y.bn := fun b hb e => n2 (by subst e; simp only [List.mem_cons, List.mem_append]; exact .inr (hb.imp id (fun x => x)))
  have hgb : Y.g ≠ Y.bn := fun e => n1 (by rw [e]; simp)
  have hbs : Y.bs ≠ Y.bn := fun e => n2 (by rw [← e]; simp)
  refine ⟨(hne _ hgb (lt_of_heap h.disk)).trans h.disk, hd, ownsMap_block h.safe (hne _ hbs h.safe.lt), row_kept h.files (fun b hb hlt => hne b (hin b (.inl hb)) hlt), row_kept h.chs (fun b hb hlt => hne b (hin b (.inr (.inl hb))) hlt), ?_, ?_, h.kn.kept hg.size hx (fun _ _ x => x), h.kc.kept hg.size hx (fun _ _ x => x), h.lenF, h.nodup, h.base⟩
  · intro i p f h1 h2
    obtain ⟨k1, k2⟩ := h.each i p f h1 h2
    have hm : ∀ b ∈ fb p, b ∈ Y.fs.flatMap fb := fun b hb => List.mem_flatMap.2 ⟨p, List.mem_of_getElem? h1, hb⟩
    exact ⟨(hne _ (hin _ (.inr (.inr (hm _ (by simp [fb]))))) (lt_of_heap k1)).trans k1, row_kept k2 (fun b hb hlt => hne b (hin b (.inr (.inr (hm b (by simp [fb, hb]))))) hlt)⟩
  · intro i v c h1 h2
    exact (h.clos i v c h1 h2).kept hx (fun _ _ x => x)

/-- The row of changes has turned, and the disk's cell that names it. -/
theorem DiskAt.chsSet {B : Nat} {w w' : World} {Y : Lay} {D : Dk} (h : DiskAt B w Y D) (v' : Value) (cv' : List Value) (chs' : List Ch) (hsz : w.heap.size ≤ w'.heap.size)
    (hb : ∀ b, b < w.heap.size → b ∉ ob Y.vc → b ≠ Y.g → w'.heap[b]? = w.heap[b]?) (hg : w'.heap[Y.g]? = some (.cells (cellsOf { Y with vc := v' } D) 63))
    (hr : w'.ownsRow B 83 1 v' chs'.length cv') (hv : ∀ b ∈ ob v', b ∈ ob Y.vc ∨ w.heap.size ≤ b)
    (hcl : ∀ (X : List Nat), (∀ b, b < w.heap.size → b ∈ X → b ∈ Y.blocks) → ∀ (i : Nat) v c, cv'[i]? = some v → chs'[i]? = some c → ClosAt w' X v c) :
    DiskAt B w' { Y with vc := v', cv := cv' } { D with chs := chs' } := by
  let L1 : List Nat := Y.g :: Y.bn :: Y.bs :: ob Y.vf
  have hbl : Y.blocks = L1 ++ (ob Y.vc ++ Y.fs.flatMap fb) := by simp only [Lay.blocks, Lay.rest, L1, List.cons_append]
  have hbl' : ({ Y with vc := v', cv := cv' } : Lay).blocks = L1 ++ (ob v' ++ Y.fs.flatMap fb) := by simp only [Lay.blocks, Lay.rest, L1, List.cons_append]
  have hnd := h.nodup
  rw [hbl] at hnd
  have hlt := h.lt
  have h1lt : ∀ x ∈ L1, x < w.heap.size := fun x hx => hlt x (by rw [hbl]; exact List.mem_append_left _ hx)
  have h2lt : ∀ x ∈ Y.fs.flatMap fb, x < w.heap.size := fun x hx => hlt x (by rw [hbl]; exact List.mem_append_right _ (List.mem_append_right _ hx))
  have same : ∀ x, (x ∈ L1 ∨ x ∈ Y.fs.flatMap fb) → x ≠ Y.g → w'.heap[x]? = w.heap[x]? := fun x hx hne => hb x (hx.elim (h1lt x) (h2lt x)) (nodup_apart hnd hx) hne
  have hX : ∀ b, b < w.heap.size → b ∈ ({ Y with vc := v', cv := cv' } : Lay).blocks → b ∈ Y.blocks := by
    intro b hlt hm
    rw [hbl'] at hm
    rw [hbl]
    rcases List.mem_append.1 hm with k | k
    · exact List.mem_append_left _ k
    · rcases List.mem_append.1 k with k | k
      · rcases hv b k with k | k
        · exact List.mem_append_right _ (List.mem_append_left _ k)
        · omega
      · exact List.mem_append_right _ (List.mem_append_right _ k)
  have hx : ∀ b, b < w.heap.size → b ∉ Y.blocks → w'.heap[b]? = w.heap[b]? := fun b hlt hnb => hb b hlt (fun hm => hnb (in_blocks (mem_vc hm))) (fun e => hnb (by rw [e]; exact mem_g Y))
  refine ⟨hg, ownsMap_block h.now (same _ (.inl (by simp [L1])) (h.ne_g (mem_bn Y))), ownsMap_block h.safe (same _ (.inl (by simp [L1])) (h.ne_g (mem_bs Y))), row_kept h.files (fun b hm _ => same b (.inl (by simp [L1, hm])) (h.ne_g (mem_vf hm))), hr, ?_, hcl _ hX, h.kn.kept hsz hx hX, h.kc.kept hsz hx hX, h.lenF, ?_, ?_⟩
  · intro i p f h1 h2
    obtain ⟨k1, k2⟩ := h.each i p f h1 h2
    have hm : ∀ b ∈ fb p, b ∈ Y.fs.flatMap fb := fun b hb => List.mem_flatMap.2 ⟨p, List.mem_of_getElem? h1, hb⟩
    exact ⟨(same _ (.inr (hm _ (by simp [fb]))) (h.ne_g (mem_fs h1))).trans k1, row_kept k2 (fun b hb' _ => same b (.inr (hm b (by simp [fb, hb']))) (h.ne_g (mem_fd h1 hb')))⟩
  · rw [hbl']; exact nodup_swap hnd (ob_nodup v') hv h1lt h2lt
  · intro b hm
    by_cases hlt' : b < w.heap.size
    · exact h.base b (hX b hlt' hm)
    · have := h.base Y.g (mem_g Y)
      have := h1lt Y.g (by simp [L1])
      omega

/-- The closure value called on a directory. -/
def clFn : Ch → FuncId
  | .put _ _ => 33
  | .ren _ _ => 35
  | .del _ => 36

theorem clos_call {w : World} {X : List Nat} {v : Value} {c : Ch} (hc : ClosAt w X v c) (b : Nat) (hb : b ∈ X) (m : DM) (hd : Dir w b 1000000 m) (hm : m.length < 1000000) (n : Nat) (hn : n ≤ 1000000) (hf : fits n m) (hcf : c.fits n)
    (hnm : c.names) :
    ∃ caps, v = .func (.func (clFn c)) #[] caps ∧ Calls Try.prog (clFn c) (#[.map (some b)] ++ caps) w (ClosPost b (c.on m) w) := by
  cases c with
  | put k i =>
    obtain ⟨q1, q2, e, h1, h2, h3, h4⟩ := hc
    exact ⟨_, e, clos_put w b m hd hm k hnm i (by have : i < n := hcf; omega) q1 q2 h1 h2⟩
  | ren k l =>
    obtain ⟨q1, q2, e, h1, h2, h3, h4⟩ := hc
    refine ⟨_, e, clos_ren w b m hd hm k l hnm.1 hnm.2 ?_ q1 q2 (fun e => h3 (e ▸ hb)) (fun e => h4 (e ▸ hb)) h1 h2⟩
    cases hg : getM m k with
    | none => simp
    | some i => have := fits_get hf hg; simp; omega
  | del k =>
    obtain ⟨q1, e, h1, h3⟩ := hc
    exact ⟨_, e, clos_del w b m hd k hnm q1 h1⟩

theorem delM_mem {m : DM} {k : List UInt8} {p : List UInt8 × Nat} (h : p ∈ delM m k) : p ∈ m := (List.mem_filter.1 h).1
theorem insM_mem (k : List UInt8) (n : Nat) : ∀ {m : DM} {p : List UInt8 × Nat}, p ∈ insM k n m → p = (k, n) ∨ p ∈ m
  | [], p, h => by simpa [insM] using h
  | y :: r, p, h => by
    rw [insM] at h
    split at h
    · simpa using h
    · rcases List.mem_cons.1 h with rfl | h
      · exact .inr (by simp)
      · exact (insM_mem k n h).imp id (fun x => by simp [x])
theorem putM_mem {m : DM} {k : List UInt8} {n : Nat} {p : List UInt8 × Nat} (h : p ∈ putM m k n) : p = (k, n) ∨ p ∈ m := (insM_mem k n h).imp id delM_mem
theorem on_fits {n : Nat} {m : DM} {c : Ch} (h : fits n m) (hc : c.fits n) : fits n (c.on m) := by
  cases c with
  | put k i =>
    intro p hp
    rcases putM_mem hp with rfl | hp
    · exact hc
    · exact h p hp
  | ren a b =>
    intro p hp
    rcases putM_mem (delM_mem hp) with rfl | hp
    · cases hg : getM m a with
      | none => exact hc
      | some i => exact fits_get h hg
    · exact h p hp
  | del k => exact fun p hp => h p (delM_mem hp)

set_option maxHeartbeats 4000000 in
set_option maxRecDepth 100000 in
theorem turn_any (B : Nat) (w : World) (Y : Lay) (D : Dk) (h : DiskAt B w Y D) (ok : Ok D) (c : Ch) (v : Value) (hc : ClosAt w Y.blocks v c) (hfine : Fine D c) :
    Calls Try.prog 32 #[ptr Y.g, v] w (OpPost B Y w (.tuple #[]) (turn D c)) := by
  obtain ⟨caps, hv, hcall⟩ := clos_call hc Y.bn (in_blocks (mem_bn Y)) D.now h.now (by have := ok.nnow; omega) D.files.length ok.nfiles ok.now hfine.fit hfine.names
  have c3 : w.cell? ⟨Y.g, 3, none⟩ = some (.map (some Y.bn)) := h.cell 3
  rw [hv]
  have H := Lib.hid h; have HC := Lib.hid hcall
  have hent : ∀ args w, (callFunc (clFn c) args).run Try.prog w = .ok (.enter (clFn c) args) w := by
    cases c
    · exact enters' Try.func33 (by kernel_rfl) rfl
    · exact enters' Try.func35 (by kernel_rfl) rfl
    · exact enters' Try.func36 (by kernel_rfl) rfl
  clear h hcall
  unfold ptr
  go_enter Try.func32, Try.ntmps32
  go_wp2_with fail
  refine HC.out.mono ?_
  rintro e w1 ⟨rfl, hd1, hg1⟩
  obtain ⟨vca, vcc, hvc⟩ := row_slice H.out.chs
  have h1 := H.out.nowSet _ hd1 hg1
  have c5 : w1.cell? ⟨Y.g, 5, none⟩ = some Y.vc := h1.cell 5
  rw [hvc] at c5
  have hgl : Y.g < w1.heap.size := lt_of_heap h1.disk
  have hrow := h1.chs.alloc (.cells #[Value.func (.func (clFn c)) #[] caps] 83)
  have hcd : DiskAt B w1 Y { D with now := c.on D.now } := h1
  dsimp only at hrow
  have HROW := Lib.hid hrow; have H1 := Lib.hid h1; have HG1 := Lib.hid hg1; have HVC := Lib.hid hvc
  clear HC hd1 hg1 h1 hcd hrow hvc
  obtain ⟨i0, hi, hz0, hz1, hz2⟩ := info_parts infoChange
  have hBg : B ≤ w1.heap.size + 1 := by have := H.out.base Y.g (mem_g Y); omega
  have hsz1 : (w1.alloc (.cells #[Value.func (.func (clFn c)) #[] caps] 83)).heap.size = w1.heap.size + 1 := by show (w1.heap.push _).size = _; simp
  have hnch := ok.nchs
  go_wp2_with (at_builtin; refine wpList_append_own_at _ rfl _ _ 61 rfl B 83 i0 (.agg #[.nilFunc]) 1 8 Try.underlying61 hi hz0 hz1 hz2 rfl (by decide) _ D.chs.length Y.cv HVC.out.symm HROW.out ⟨w1.heap.size, 0, none⟩ 1 1 [Value.func (.func (clFn c)) #[] caps] rfl rfl (cell_one_new _ _ _) ?d2 ?d3 ?d4 ?d5 ?_)
  case d2 => intro u hu; simp at hu; subst hu; rfl
  case d3 => unfold maxLen; omega
  case d4 => omega
  case d5 => rw [hsz1]; exact hBg
  intro v' w2 hown2 hg2 _ hloc
  obtain ⟨va', vc', rfl⟩ := row_slice hown2
  obtain ⟨v', hv'⟩ : ∃ v', v' = Value.slice va' (D.chs.length + 1) vc' := ⟨_, rfl⟩
  rw [← hv'] at hown2 hloc
  have hsz2 : w1.heap.size + 1 ≤ w2.heap.size := by have := hg2.size; omega
  have hgn : Y.g ∉ ob Y.vc := fun hm => H.out.ne_g (mem_vc hm) rfl
  have hrow2 : ∀ b, b < w1.heap.size → b ∉ ob Y.vc → w2.heap[b]? = w1.heap[b]? := fun b hb hnb => by
    rw [hg2.block b (by omega) (fun e => hnb (by rw [ob, ← e]; simp))]
    exact Below.heap_alloc _ _ _ hb
  have g2 : w2.heap[Y.g]? = some (.cells (cellsOf Y { D with now := c.on D.now }) 63) := (hrow2 Y.g hgl hgn).trans H1.out.disk
  have f5 : w2.frozen? ⟨Y.g, 5, none⟩ = false := frozen_of_heap g2
  have d5 : w2.cell? ⟨Y.g, 5, none⟩ = some Y.vc := cell_of_heap g2
  have hne3 : ∀ b, b < w1.heap.size → b ∉ ob Y.vc → b ≠ Y.g → (w2.setCell ⟨Y.g, 5, none⟩ v').heap[b]? = w1.heap[b]? := fun b hb hnb hne => (Below.heap_setCell _ _ _ _ hne).trans (hrow2 b hb hnb)
  have hkx : ∀ b, b < w.heap.size → b ∉ Y.blocks → w1.heap[b]? = w.heap[b]? := fun b hb hnb => HG1.out.block b hb (by intro e; injection e with e; exact hnb (by rw [e]; exact in_blocks (mem_bn Y)))
  have hcv : Y.cv.length = D.chs.length := by have := H.out.chs.1; simpa using this
  have hnew := H1.out.chsSet (w' := w2.setCell ⟨Y.g, 5, none⟩ v') v' (Y.cv ++ [Value.func (.func (clFn c)) #[] caps]) (D.chs ++ [c]) (by simp [World.setCell]; omega) hne3
    (by rw [setCell_heap _ _ _ _ _ _ g2]; simp [cellsOf])
    (by
      rw [List.length_append, List.length_singleton]
      exact row_kept hown2 (fun b hm hb => Below.heap_setCell _ _ _ _ (by
        intro e; subst e
        rcases hloc with k | k
        · exact hgn (by rw [ob, ← k]; exact hm)
        · rw [ob, k] at hm; simp at hm; omega)))
    (by
      intro b hm
      rcases hloc with k | k
      · left; rw [ob, ← k]; exact hm
      · right; rw [ob, k] at hm; simp at hm; omega)
    (by
      intro X hX i u d h1 h2
      by_cases hi' : i < D.chs.length
      · rw [List.getElem?_append_left (by omega)] at h1
        rw [List.getElem?_append_left hi'] at h2
        exact (H1.out.clos i u d h1 h2).kept (fun b hb hnb => hne3 b hb (fun hm => hnb (in_blocks (mem_vc hm))) (fun e => hnb (by rw [e]; exact mem_g Y))) hX
      · rw [List.getElem?_append_right (by omega), List.getElem?_singleton] at h1 h2
        have hi2 : i = D.chs.length := by split at h2 <;> first | omega | simp at h2
        rw [if_pos (by omega)] at h1 h2
        obtain rfl := Option.some.inj h1
        obtain rfl := Option.some.inj h2
        rw [← hv]
        have k1 := hc.kept hkx (fun b hb hm => hm)
        exact (k1.kept (fun b hb hnb => hne3 b hb (fun hm => hnb (in_blocks (mem_vc hm))) (fun e => hnb (by rw [e]; exact mem_g Y))) hX))
  have hY' : ∀ b ∈ ({ Y with vc := v', cv := Y.cv ++ [Value.func (.func (clFn c)) #[] caps] } : Lay).blocks, b ∈ Y.blocks ∨ w.heap.size ≤ b := by
    intro b hm
    have hs1 := HG1.out.size
    simp only [Lay.blocks, Lay.rest, List.mem_cons, List.mem_append] at hm ⊢
    rcases hm with h | h | h | h | h | h
    · exact .inl (.inl h)
    · exact .inl (.inr (.inl h))
    · exact .inl (.inr (.inr (.inl h)))
    · exact .inl (.inr (.inr (.inr (.inl h))))
    · rcases hloc with k | k
      · exact .inl (.inr (.inr (.inr (.inr (.inl (by rw [ob, ← k]; exact h))))))
      · rw [ob, k] at h; simp at h; exact .inr (by omega)
    · exact .inl (.inr (.inr (.inr (.inr (.inr h)))))
  have hturn : Turn Y.blocks w (w2.setCell ⟨Y.g, 5, none⟩ v') := by
    have t1 : Turn Y.blocks w w1 := (Turn.refl _ _).grown HG1.out (fun k hk => .inl (by simp at hk; rw [hk]; exact in_blocks (mem_bn Y)))
    exact (((t1.alloc _).grown hg2 (fun k hk => .inl (in_blocks (mem_vc hk)))).setCell (.inl (mem_g Y)) _)
  have REC := Lib.hid (reckon_any B _ _ _ hnew (on_fits ok.now hfine.fit) (fun f hf => (ok.lens f hf).1) (by have h1 := Ch.on_length D.now c; have h2 := ok.nnow; dsimp only; omega))
  rw [hv'] at REC hturn hY'
  have HY' := Lib.hid hY'; have HTURN := Lib.hid hturn
  clear hnew hY' hturn hv' hown2 hg2 hloc hrow2 hne3 hkx g2 c5 hv hc HROW H1 HG1
  go_wp2_with fail
  refine REC.out.mono ?_
  rintro e w4 ⟨rfl, h4, ht4⟩
  have H4 := Lib.hid h4; have HT4 := Lib.hid ht4
  clear h4 ht4 REC
  go_wp2
  go_end0
  exact ⟨_, rfl, H4.out, HTURN.out.trans HT4.out (by intro y hy; simp at hy; subst hy; exact .inl (mem_g Y)), HY'.out, rfl⟩
end Go.Proofs.Ytcfdfpjemonhoaa.Dk
