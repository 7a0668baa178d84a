/-
  The contract of the law's awake: a disk and its twin, one small life.
-/
import Derived.Test.YtcfdfpjemonhoaaDkGood
namespace Go.Proofs.Ytcfdfpjemonhoaa.Dk
open Go.RowKit Go.Maps Go.WideMaps

/-- A disk that holds no closure and no row of numbers, and whose own blocks are as they were. -/
theorem DiskAt.apart {B : Nat} {w w' : World} {Y : Lay} {D : Dk} (h : DiskAt B w Y D) (h1 : D.chs = []) (h2 : D.next.2 = []) (h3 : D.crash.2 = []) (hb : ∀ b ∈ Y.blocks, w'.heap[b]? = w.heap[b]?) : DiskAt B w' Y D := by
  have hn := h.kn
  have hk := h.kc
  have hcv : Y.cv = [] := by have := h.chs.1; rw [h1] at this; simpa using this
  refine ⟨(hb _ (mem_g Y)).trans h.disk, ownsMap_block h.now (hb _ (in_blocks (mem_bn Y))), ownsMap_block h.safe (hb _ (in_blocks (mem_bs Y))), row_kept h.files (fun b hm _ => hb b (in_blocks (mem_vf hm))), row_kept h.chs (fun b hm _ => hb b (in_blocks (mem_vc hm))), ?_, ?_, ?_, ?_, h.lenF, h.nodup, h.base⟩
  · intro i p f k1 k2
    obtain ⟨e1, e2⟩ := h.each i p f k1 k2
    exact ⟨(hb _ (in_blocks (mem_fs k1))).trans e1, row_kept e2 (fun b hm _ => hb b (in_blocks (mem_fd k1 hm)))⟩
  · intro i v c k1 _; rw [hcv] at k1; simp at k1
  · obtain ⟨a, cap, e, hl, _⟩ := hn; exact ⟨a, cap, e, hl, fun hne => absurd h2 hne⟩
  · obtain ⟨a, cap, e, hl, _⟩ := hk; exact ⟨a, cap, e, hl, fun hne => absurd h3 hne⟩

def Bare (D : Dk) : Prop := D.chs = [] ∧ D.next.2 = [] ∧ D.crash.2 = []

/-- Two disks, each in memory of its own. -/
structure Two (B B' : Nat) (w : World) (Y Z : Lay) (D E : Dk) : Prop where
  d : DiskAt B w Y D
  t : DiskAt B' w Z E
  dis : ∀ b ∈ Y.blocks, b ∉ Z.blocks

theorem Two.swap {B B' : Nat} {w : World} {Y Z : Lay} {D E : Dk} (h : Two B B' w Y Z D E) : Two B' B w Z Y E D := ⟨h.t, h.d, fun b hz hy => h.dis b hy hz⟩
theorem Two.turn {B B' : Nat} {w w' : World} {Y Y' Z : Lay} {D D' E : Dk} (h : Two B B' w Y Z D E) (hE : Bare E) (h1 : DiskAt B w' Y' D') (h2 : Turn Y.blocks w w') (h3 : ∀ b ∈ Y'.blocks, b ∈ Y.blocks ∨ w.heap.size ≤ b) : Two B B' w' Y' Z D' E := by
  refine ⟨h1, h.t.apart hE.1 hE.2.1 hE.2.2 (fun b hb => h2.block b (h.t.lt b hb) (fun hy => h.dis b hy hb)), fun b hy hz => ?_⟩
  rcases h3 b hy with k | k
  · exact h.dis b k hz
  · have := h.t.lt b hz; omega

abbrev hello : List UInt8 := [104, 101, 108, 108, 111]
def aw1 : Dk := ⟨10, 0, [⟨[], 0⟩], [([97], 0)], [], [.put [97] 0], 1, 0, (0, []), (0, []), false⟩
def aw2 : Dk := ⟨10, 5, [⟨hello, 0⟩], [([97], 0)], [], [.put [97] 0], 2, 0, (0, []), (0, []), false⟩
def aw3 : Dk := ⟨10, 5, [⟨hello, 0⟩], [([97], 0)], [], [.put [97] 0], 3, 0, (0, []), (0, []), false⟩
def aw4 : Dk := ⟨10, 5, [⟨hello, 0⟩], [([97], 0)], [], [.put [97] 0], 3, 0, (0, []), (0, []), true⟩
def aw5 : Dk := ⟨10, 0, [⟨hello, 0⟩], [], [], [], 3, 0, (0, []), (0, []), false⟩
def tw1 : Dk := ⟨10, 5, [⟨hello, 5⟩], [([97], 0)], [], [.put [97] 0], 4, 0, (0, []), (0, []), false⟩
def tw2 : Dk := ⟨10, 5, [⟨hello, 5⟩], [([97], 0)], [([97], 0)], [], 5, 0, (0, []), (0, []), false⟩
def tw3 : Dk := ⟨10, 5, [⟨hello, 5⟩], [([97], 0)], [([97], 0)], [], 5, 0, (0, []), (0, []), true⟩
def tw4 : Dk := ⟨10, 5, [⟨hello, 5⟩], [([97], 0)], [([97], 0)], [], 5, 0, (0, []), (0, []), false⟩

theorem aw_create : create (newDk 10) [97] = (0, aw1) := by rfl
theorem aw_append : append aw1 [97] hello = (0, aw2) := by rfl
theorem aw_open : openF aw2 [97] = ((some 0, 0), aw3) := by rfl
theorem aw_sync : sync aw3 [97] = (0, tw1) := by rfl
theorem aw_syncDir : syncDir tw1 = (0, tw2) := by rfl
theorem aw_pull : pull aw3 (0, []) = (0, aw4) := by rfl
theorem tw_pull : pull tw2 (0, []) = (0, tw3) := by rfl
theorem aw_restart : restartN aw4 = (0, aw5) := by
  have h : numsOf (replay aw4 0) = [] := by
    show (([] : DM).map (·.2)).mergeSort _ = []
    simp
  show (0, restarted aw4 0) = (0, aw5)
  unfold restarted
  rw [h]; rfl
theorem tw_restart : restartN tw3 = (0, tw4) := by
  have h : numsOf (replay tw3 0) = [0] := by
    show (([([97], 0)] : DM).map (·.2)).mergeSort _ = [0]
    simp
  show (0, restarted tw3 0) = (0, tw4)
  unfold restarted
  rw [h]; rfl
theorem aw_list : ∃ D', listN aw5 = (([], 0), D') := by
  refine ⟨{ aw5 with calls := 4 }, ?_⟩
  have h : names aw5.now = [] := by
    show (([] : DM).map (·.1)).mergeSort _ = []
    simp
  have e : listN aw5 = ((names aw5.now, 0), { aw5 with calls := 4 }) := rfl
  rw [e, h]
theorem tw_list : ∃ D', listN tw4 = (([[97]], 0), D') := by
  refine ⟨{ tw4 with calls := 6 }, ?_⟩
  have h : names tw4.now = [[97]] := by
    show (([([97], 0)] : DM).map (·.1)).mergeSort _ = [[97]]
    simp
  have e : listN tw4 = ((names tw4.now, 0), { tw4 with calls := 6 }) := rfl
  rw [e, h]

theorem g0 : Good 1000000 (newDk 10) := good_new 10 (by decide) (by decide)
theorem g1 : Good 999998 aw1 := by have := good_create (x := [97]) g0 (by unfold maxLen; decide); rwa [aw_create] at this
theorem g2 : Good 999997 aw2 := by have := good_append (x := [97]) (d := hello) g1; rwa [aw_append] at this
theorem g3 : Good 999996 aw3 := by have := good_openF (x := [97]) g2; rwa [aw_open] at this
theorem g4 : Good 999996 aw4 := by have := good_pull (c := (0, [])) g3; rwa [aw_pull] at this
theorem g5 : Good 999996 aw5 := by have := good_restart g4; rwa [aw_restart] at this
theorem k1 : Good 999995 tw1 := by have := good_sync (x := [97]) g3; rwa [aw_sync] at this
theorem k2 : Good 999994 tw2 := by have := good_syncDir k1; rwa [aw_syncDir] at this
theorem k3 : Good 999994 tw3 := by have := good_pull (c := (0, [])) k2; rwa [tw_pull] at this
theorem k4 : Good 999994 tw4 := by have := good_restart k3; rwa [tw_restart] at this

theorem sz1 : (⟨#[97]⟩ : ByteArray).size ≤ maxLen := by unfold maxLen; decide
theorem restart_good {B : Nat} {w : World} {Y : Lay} {D : Dk} {k : Nat} (h : DiskAt B w Y D) (g : Good k D) : Calls Try.prog 20 #[ptr Y.g] w (OpPost B Y w (.int .i64 (restartN D).1) (restartN D).2) :=
  restart_any B w Y D h g.ok (fun j => (g.hist j).len) g.names

theorem in_below {N : Nat} {X : List Nat} {a b : World} (h : Turn X a b) (hX : ∀ x ∈ X, N ≤ x) (hN : N ≤ a.heap.size) : Below N a b := h.below hX hN

set_option maxHeartbeats 16000000 in
set_option maxRecDepth 100000 in
theorem awake_any (w : World) : Calls Try.prog 14 #[] w fun e w' => e = .returned (.bool true) ∧ Below w.heap.size w w' := by
  go_enter Try.func14, Try.ntmps14
  go_wp2_with fail
  refine (new_any 10 (by decide) (by decide) w).mono ?_
  rintro e w1 ⟨Y0, rfl, d0, b1⟩
  have D0 := Lib.hid d0; have B1 := Lib.hid b1; clear d0 b1
  have C1 := create_any w.heap.size w1 Y0 _ ⟨#[97]⟩ sz1 D0.out g0.ok (by decide) (by decide)
  rw [show (⟨#[97]⟩ : ByteArray).data.toList = [97] from rfl, aw_create] at C1
  have C := Lib.hid C1; clear C1
  unfold ptr at C ⊢
  go_wp2_with fail
  refine C.out.mono ?_
  rintro e w2 ⟨Y1, rfl, d1, t1, x1, y1⟩
  have D1 := Lib.hid d1; have T1 := Lib.hid t1; have X1 := Lib.hid x1; clear d1 t1 x1 C
  have C1 := append_any w.heap.size w2 Y1 _ ⟨#[97]⟩ ⟨#[104, 101, 108, 108, 111]⟩ sz1 (by unfold maxLen; decide) D1.out g1.ok
  rw [show (⟨#[97]⟩ : ByteArray).data.toList = [97] from rfl, show (⟨#[104, 101, 108, 108, 111]⟩ : ByteArray).data.toList = hello from rfl, aw_append] at C1
  unfold ptr at C1
  rw [y1] at C1
  have C := Lib.hid C1; clear C1
  go_wp2_with fail
  refine C.out.mono ?_
  rintro e w3 ⟨Y2, rfl, d2, t2, x2, y2⟩
  have y2' : Y2.g = Y0.g := y2.trans y1
  have D2 := Lib.hid d2; have T2 := Lib.hid t2; have X2 := Lib.hid x2; clear d2 t2 x2 C
  have C1 := read_part w.heap.size w3 Y2 _ aw3 ⟨#[97]⟩ 0 ⟨hello, 0⟩ 1 3 sz1 D2.out g2.ok aw_open rfl (by decide) (by decide) (by decide)
  unfold ptr at C1
  rw [y2'] at C1
  have C := Lib.hid C1; clear C1
  go_wp2_with fail
  refine C.out.mono ?_
  rintro e w4 ⟨Y3, rfl, d3, t3, x3, y3⟩
  have y3' : Y3.g = Y0.g := y3.trans y2'
  have D3 := Lib.hid d3; have T3 := Lib.hid t3; have X3 := Lib.hid x3; clear d3 t3 x3 C
  have C1 := twin_any w.heap.size w4 Y3 _ D3.out g3.ok
  unfold ptr at C1
  rw [y3'] at C1
  have C := Lib.hid C1; clear C1
  go_wp2_with fail
  refine C.out.mono ?_
  rintro e w5 ⟨Z0, rfl, z0, b5⟩
  have E0 := Lib.hid z0; have B5 := Lib.hid b5; clear z0 b5 C
  have s1 := B1.out.size
  have BW2 := B1.out.trans (in_below T1.out D0.out.base s1)
  have BW3 := BW2.trans (in_below T2.out D1.out.base BW2.size)
  have BW4 := BW3.trans (in_below T3.out D2.out.base BW3.size)
  have BW5 := BW4.trans (B5.out.mono BW4.size)
  have s5 := BW5.size
  have s4 := BW4.size
  have hB5 := B5.out.size
  have BW := Lib.hid BW5
  clear BW2 BW3 BW4 BW5
  have C1 := sync_any w4.heap.size w5 Z0 _ ⟨#[97]⟩ sz1 E0.out g3.ok
  rw [show (⟨#[97]⟩ : ByteArray).data.toList = [97] from rfl, aw_sync] at C1
  unfold ptr at C1
  have C := Lib.hid C1; clear C1
  go_wp2_with fail
  refine C.out.mono ?_
  rintro e w6 ⟨Z1, rfl, z1, t6, x6, u1⟩
  have E1 := Lib.hid z1; have T6 := Lib.hid t6; clear z1 t6 x6 C
  have C1 := syncDir_any w4.heap.size w6 Z1 _ E1.out k1.ok
  rw [aw_syncDir] at C1
  unfold ptr at C1
  rw [u1] at C1
  have C := Lib.hid C1; clear C1
  go_wp2_with fail
  refine C.out.mono ?_
  rintro e w7 ⟨Z2, rfl, z2, t7, x7, u2⟩
  have u2' : Z2.g = Z0.g := u2.trans u1
  have hb6 : Below w4.heap.size w4 w6 := B5.out.trans (in_below T6.out E0.out.base hB5)
  have hb7 : Below w4.heap.size w4 w7 := hb6.trans (in_below t7 E1.out.base hb6.size)
  have tw : Two w.heap.size w4.heap.size w7 Y3 Z2 aw3 tw2 := ⟨D3.out.below hb7, z2, fun b hy hz => by have h1 := D3.out.lt b hy; have h2 := z2.base b hz; omega⟩
  have hw7 : Below w.heap.size w w7 := by
    have b1 : Below w.heap.size w5 w6 := in_below T6.out (fun x hx => Nat.le_trans s4 (E0.out.base x hx)) s5
    have b2 : Below w.heap.size w6 w7 := in_below t7 (fun x hx => Nat.le_trans s4 (E1.out.base x hx)) (Nat.le_trans s5 b1.size)
    exact BW.out.trans (b1.trans b2)
  have TW := Lib.hid tw; have W7 := Lib.hid hw7
  clear tw hw7 hb6 hb7 z2 t7 x7 C T6 T1 T2 T3 X1 X2 X3 D0 D1 D2 D3 E0 E1 BW B1 B5 s1 s5 hB5
  have C1 := pull_any w.heap.size w7 Y3 _ (0, []) (.slice none 0 0) (keep_nil _ _) TW.out.d
  rw [aw_pull] at C1
  unfold ptr crashV at C1
  rw [y3'] at C1
  have C := Lib.hid C1; clear C1
  go_wp2_with fail
  refine C.out.mono ?_
  rintro e w8 ⟨Y4, rfl, d8, t8, x8, y4⟩
  have y4' : Y4.g = Y0.g := y4.trans y3'
  have hw8 := W7.out.trans (in_below t8 TW.out.d.base W7.out.size)
  have TW8 := Lib.hid (TW.out.turn (by exact ⟨rfl, rfl, rfl⟩) d8 t8 x8); have W8 := Lib.hid hw8
  clear hw8 d8 t8 x8 C TW W7
  have C1 := restart_good TW8.out.d g4
  rw [aw_restart] at C1
  unfold ptr at C1
  rw [y4'] at C1
  have C := Lib.hid C1; clear C1
  go_wp2_with fail
  refine C.out.mono ?_
  rintro e w9 ⟨Y5, rfl, d9, t9, x9, y5⟩
  have y5' : Y5.g = Y0.g := y5.trans y4'
  have hw9 := W8.out.trans (in_below t9 TW8.out.d.base W8.out.size)
  have TW9 := Lib.hid (TW8.out.turn (by exact ⟨rfl, rfl, rfl⟩) d9 t9 x9).swap; have W9 := Lib.hid hw9
  clear hw9 d9 t9 x9 C TW8 W8
  have C1 := pull_any w4.heap.size w9 Z2 _ (0, []) (.slice none 0 0) (keep_nil _ _) TW9.out.d
  rw [tw_pull] at C1
  unfold ptr crashV at C1
  rw [u2'] at C1
  have C := Lib.hid C1; clear C1
  go_wp2_with fail
  refine C.out.mono ?_
  rintro e w10 ⟨Z3, rfl, d10, t10, x10, u3⟩
  have u3' : Z3.g = Z0.g := u3.trans u2'
  have hw10 := W9.out.trans (in_below t10 (fun x hx => Nat.le_trans s4 (TW9.out.d.base x hx)) W9.out.size)
  have TW10 := Lib.hid (TW9.out.turn (by exact ⟨rfl, rfl, rfl⟩) d10 t10 x10); have W10 := Lib.hid hw10
  clear hw10 d10 t10 x10 C TW9 W9
  have C1 := restart_good TW10.out.d k3
  rw [tw_restart] at C1
  unfold ptr at C1
  rw [u3'] at C1
  have C := Lib.hid C1; clear C1
  go_wp2_with fail
  refine C.out.mono ?_
  rintro e w11 ⟨Z4, rfl, d11, t11, x11, u4⟩
  have u4' : Z4.g = Z0.g := u4.trans u3'
  have hw11 := W10.out.trans (in_below t11 (fun x hx => Nat.le_trans s4 (TW10.out.d.base x hx)) W10.out.size)
  have TW11 := Lib.hid (TW10.out.turn (by exact ⟨rfl, rfl, rfl⟩) d11 t11 x11).swap; have W11 := Lib.hid hw11
  clear hw11 d11 t11 x11 C TW10 W10
  obtain ⟨Da, eda⟩ := aw_list
  obtain ⟨Dt, edt⟩ := tw_list
  have C1 := list_any w.heap.size w11 Y5 _ TW11.out.d g5.ok
  rw [eda] at C1
  unfold ptr at C1
  rw [y5'] at C1
  have C := Lib.hid C1; clear C1 eda
  go_wp2_with fail
  refine C.out.mono ?_
  rintro e w12 ⟨kc1, v1, rfl, r1, d12, t12⟩
  obtain ⟨va1, vc1, rfl⟩ := row_slice r1
  have hw12 := W11.out.trans (in_below t12 (fun x hx => by simp at hx; subst hx; exact TW11.out.d.base _ (mem_g Y5)) W11.out.size)
  have hE12 : DiskAt w4.heap.size w12 Z4 tw4 := TW11.out.t.apart rfl rfl rfl (fun b hb => t12.block b (TW11.out.t.lt b hb) (fun hy => by simp at hy; exact TW11.out.dis b (by rw [hy]; exact mem_g Y5) hb))
  have E12 := Lib.hid hE12; have W12 := Lib.hid hw12
  clear hw12 hE12 r1 d12 t12 C TW11 W11
  have C1 := list_any w4.heap.size w12 Z4 _ E12.out k4.ok
  rw [edt] at C1
  unfold ptr at C1
  rw [u4'] at C1
  have C := Lib.hid C1; clear C1 edt
  go_wp2_with fail
  refine C.out.mono ?_
  rintro e w13 ⟨kc2, v2, rfl, r2, d13, t13⟩
  obtain ⟨va2, vc2, rfl⟩ := row_slice r2
  have hw13 := W12.out.trans (in_below t13 (fun x hx => by simp at hx; subst hx; exact Nat.le_trans s4 (E12.out.base _ (mem_g Z4))) W12.out.size)
  have W13 := Lib.hid hw13
  clear hw13 r2 d13 t13 C E12 W12
  dsimp only [List.length_nil, List.length_cons]
  go_wp2
  go_ret
  exact ⟨rfl, W13.out⟩
end Go.Proofs.Ytcfdfpjemonhoaa.Dk
