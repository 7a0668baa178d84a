import Derived.Test.YthcjjekkjbidlaaGreatDoorZPShName
import Derived.Test.YthcjjekkjbidlaaGreatDoorZShelf
set_option linter.unusedSimpArgs false
set_option linter.unusedVariables false
/-
  The contract of digits as bytes.
-/
namespace Go.Proofs.YthcjjekkjbidlaaGreatDoor.Sh
open Go.RowKit Go.Maps Go.Proofs.YthcjjekkjbidlaaGreatDoor.Rf Go.Proofs.YthcjjekkjbidlaaGreatDoor.Rd Go.Proofs.YthcjjekkjbidlaaGreatDoor.St

def ixd (b : UInt8) : Int := if dg b < 16 then (dg b : Int) else -1
theorem ixd_eq (b : UInt8) : Lib.indexByte digL b = ixd b := by
  have : ∀ n : Fin 256, Lib.indexByte digL (UInt8.ofNat n.val) = ixd (UInt8.ofNat n.val) := by decide +kernel
  have h := this ⟨b.toNat, UInt8.toNat_lt b⟩
  simpa using h
theorem index_any (w : World) (b : UInt8) : Calls Tryz.prog 179 #[.string ⟨digL.toArray⟩, .int .u8 (b.toNat : Int)] w fun e w' => e = .returned (.int .i64 (ixd b)) ∧ w' = w := by
  have := Tryz.strings_IndexByte ⟨digL.toArray⟩ (b.toNat : Int) w
  rw [← ixd_eq]
  simpa using this
theorem odd_and (n : Nat) (h : n ≤ 140737488355328) : bits .and .i64 (n : Int) 1 = ((n % 2 : Nat) : Int) := by
  have := bits_mask .i64 63 (by decide) (fun n h0 h1 => by rw [IntKind.wrap_i64]; omega) 1 (by decide) (n : Int) (by omega) (by omega)
  rw [show ((2 : Int) ^ 1 - 1) = 1 from rfl] at this
  rw [this]; omega
theorem or4 (x y : Nat) (hx : x < 16) (hy : y < 16) : bits .or .i64 ((x : Int) * 16) (y : Int) = ((16 * x + y : Nat) : Int) := by
  rw [bits_join .i64 63 (by decide) (fun n h0 h1 => by rw [IntKind.wrap_i64]; omega) 4 ((x : Int) * 16) (y : Int) (by omega) (by omega) (by omega) (by omega) (by omega) (by omega)]
  omega
def uhE (l : List UInt8) : Int := if (unhx l).isSome then 0 else 4
def uhT (l : List UInt8) : List UInt8 := (unhx l).getD []
set_option linter.unusedSimpArgs false in
set_option maxHeartbeats 4000000 in
set_option maxRecDepth 100000 in
theorem unhex_any (w : World) (l : List UInt8) (hl : l.length ≤ 140737488355328) :
    Calls Tryz.prog 152 #[.string ⟨l.toArray⟩] w fun e w' => e = .returned (.tuple #[.string ⟨(uhT l).toArray⟩, .int .i64 (uhE l)]) ∧ Below w.heap.size w w' := by
  have hs : (⟨l.toArray⟩ : ByteArray).size = l.length := rfl
  obtain ⟨ib, hib, hbzz⟩ := Option.map_eq_some_iff.1 infoByte
  obtain ⟨hbz, hb1, hb2⟩ : ib.zero = some (.int .u8 0) ∧ ib.size = 1 ∧ ib.bytes = 1 := by injection hbzz with a b; injection b with b c; exact ⟨a, b, c⟩
  have HIB := Lib.hid (And.intro hib (And.intro hbz (And.intro hb1 hb2)))
  have ON := Lib.hid (oneId digL)
  have eodd := odd_and l.length hl
  clear hbzz hib hbz hb1 hb2
  obtain ⟨par, hpar⟩ : ∃ p, p = l.length % 2 := ⟨_, rfl⟩
  rw [← hpar] at eodd
  have HPA := Lib.hid hpar
  have par2 : par < 2 := by omega
  clear hpar
  go_enter Tryz.func152, Tryz.ntmps152
  go_wp2_with fail
  refine (digits_any w).mono ?_
  rintro e w1 ⟨rfl, hb1⟩
  have HB1 := Lib.hid hb1
  obtain ⟨a, ha⟩ : ∃ a, a = w1.heap.size := ⟨_, rfl⟩
  have hwa : w.heap.size ≤ a := by rw [ha]; exact hb1.size
  clear hb1
  by_cases hodd : (0 : Int) < (par : Int)
  · have HU : Hid (uhT l = [] ∧ uhE l = 4) := Lib.hid (by
      have := unhx_odd l (by have := HPA.out; omega)
      exact ⟨by rw [uhT, this]; rfl, by rw [uhE, this]; rfl⟩)
    go_wp2_with (first
      | (refine wpList_store_new rfl rfl T16 (.tmp 4) (.tmp 10) rfl digC rfl rfl info16 rfl ON.out ?_
         intro w2 hq2 hb2 hs2
         have HB2 : Hid (Below w.heap.size w w2) := Lib.hid (HB1.out.trans (hb2.mono HB1.out.size))
         have hcv := fun c => bc_conv (w := w2) (c := c) (n := 16) (L := digL) rfl hq2
         clear hq2 hb2 hs2))
    go_ret2
    rw [HU.out.1, HU.out.2]
    exact ⟨rfl, HB2.out⟩
  · have hpar0 : par = 0 := by omega
    have HEV : Hid (l.length % 2 = 0) := Lib.hid (by rw [← HPA.out, hpar0])
    subst hpar0
    clear hodd
    obtain ⟨hn, hhn⟩ : ∃ hn, hn = l.length / 2 := ⟨_, rfl⟩
    have ehn : (l.length : Int) / 2 = (hn : Int) := by omega
    have HHN := Lib.hid hhn
    clear hhn
    go_wp2_with (first
      | (refine wpList_store_new rfl rfl T16 (.tmp 4) (.tmp 10) rfl digC rfl rfl info16 rfl ON.out ?_
         intro w2 hq2 hb2 hs2
         have HB2 : Hid (Below w.heap.size w w2) := Lib.hid (HB1.out.trans (hb2.mono HB1.out.size))
         have hcv := fun c => bc_conv (w := w2) (c := c) (n := 16) (L := digL) rfl hq2
         have hw2 : a < w2.heap.size := by rw [ha]; exact lt_of_heap hq2
         obtain ⟨w3, hmk, ho3, hg3⟩ := run_make_own (P := Tryz.prog) w2 (a + 1) 114 5 ib (.int .u8 0) 1 Tryz.underlying114 HIB.out.1 HIB.out.2.1 HIB.out.2.2.1 .i64 .i64 hn (by rw [HIB.out.2.2.2]; have := HHN.out; omega) (by unfold maxLen; have := HHN.out; omega) (by omega)
         have HB3 : Hid (Below w.heap.size w w3) := Lib.hid (HB2.out.trans ⟨hg3.os, hg3.tape, hg3.output, hg3.size, fun k hk => hg3.block k (Nat.lt_of_lt_of_le hk HB2.out.size) (by simp)⟩)
         have HR3 := Lib.hid (rowM_own (l := []) rfl ho3)
         clear hq2 hb2 hs2 ho3 hg3))
    clear hcv hmk ehn ha HB1 HB2
    go_loopw [6, 7] (fun v6 v7 wr => ∃ (i : Nat) (m : List UInt8), i ≤ l.length ∧ i % 2 = 0 ∧ v7 = .int .i64 (i : Int) ∧ Hid (unhx (l.take i) = some m ∧ 2 * m.length = i) ∧ Hid (RowM wr (a + 1) v6 m) ∧ Hid (Below w.heap.size w wr)) (fun _ v7 _ => l.length - (RowKit.intOf v7).toNat)
    case atStart => exact ⟨0, [], Nat.zero_le _, rfl, rfl, Lib.hid ⟨rfl, rfl⟩, HR3, HB3⟩
    case round =>
      obtain ⟨i, m, hi, hi2, rfl, HU, HR, HB⟩ := hrel
      by_cases hlt : (i : Int) < (l.length : Int)
      · have hil : i + 1 < l.length := by have := HEV.out; omega
        have hil0 : i < l.length := by omega
        obtain ⟨b, hb⟩ : ∃ b, b = l[i] := ⟨_, rfl⟩
        obtain ⟨c, hc⟩ : ∃ c, c = l[i + 1] := ⟨_, rfl⟩
        have hidx : (⟨l.toArray⟩ : ByteArray)[i]'(by rw [hs]; omega) = b := by rw [hb]; rfl
        have hidx2 : (⟨l.toArray⟩ : ByteArray)[i + 1]'(by rw [hs]; omega) = c := by rw [hc]; rfl
        have e1 : IntKind.i64.wrap ((i : Int) + 1) = (i : Int) + 1 := by rw [IntKind.wrap_i64]; omega
        have e2 : ((i : Int) + 1).toNat = i + 1 := by omega
        have e3 : (i : Int) + 1 < (l.length : Int) := by omega
        have e4 : (0 : Int) ≤ (i : Int) + 1 := by omega
        have HT2 : Hid (l.take (i + 2) = l.take i ++ [b, c]) := Lib.hid (by
          rw [List.take_succ_eq_append_getElem hil, List.take_succ_eq_append_getElem hil0, hb, hc, List.append_assoc]; rfl)
        have HLL : Hid (l = l.take i ++ b :: c :: l.drop (i + 2)) := Lib.hid (by
          conv => lhs; rw [← List.take_append_drop (i + 2) l, HT2.out, List.append_assoc]
          rfl)
        have HTL : Hid ((l.take i).length % 2 = 0) := Lib.hid (by rw [List.length_take, Nat.min_eq_left hi]; exact hi2)
        clear hb hc
        go_wp2
        go_quiet ((go_at_call 179; exact Calls.quiet_of_same (index_any _ _)))
        have HR2 : Hid (RowM (wr.drewN nq) (a + 1) u6 m) := Lib.hid (HR.out.below (below_drewN wr nq))
        have HB2 : Hid (Below w.heap.size w (wr.drewN nq)) := Lib.hid (Below.drewN HB.out nq)
        clear hidx hidx2 e1 e2 e3 e4 HR HB
        generalize wr.drewN nq = w4 at HR2 HB2 ⊢
        by_cases hb16 : dg b < 16
        · by_cases hc16 : dg c < 16
          · have xb : ixd b = ((dg b : Nat) : Int) := by rw [ixd, if_pos hb16]
            have xc : ixd c = ((dg c : Nat) : Int) := by rw [ixd, if_pos hc16]
            rw [xb, xc]
            obtain ⟨y, hy⟩ : ∃ y, y = UInt8.ofNat (16 * dg b + dg c) := ⟨_, rfl⟩
            have HSO : Hid (unhx (l.take (i + 2)) = some (m ++ [y])) := Lib.hid (by rw [HT2.out, hy]; exact unhx_some ⟨hb16, hc16⟩ _ _ HU.out.1)
            obtain ⟨p, hp⟩ : ∃ p, p = dg b := ⟨_, rfl⟩
            obtain ⟨r, hr⟩ : ∃ r, r = dg c := ⟨_, rfl⟩
            have hyv : ((y.toNat : Nat) : Int) = ((16 * p + r : Nat) : Int) := by rw [hy, hp, hr, UInt8.toNat_ofNat_of_lt' (by omega : 16 * dg b + dg c < 256)]
            have eor := or4 (dg b) (dg c) hb16 hc16
            rw [← hp, ← hr] at eor ⊢
            rw [← hyv] at eor
            have hyb := UInt8.toNat_lt y
            have p16 : p < 16 := by omega
            have r16 : r < 16 := by omega
            have w16 : IntKind.i64.wrap ((p : Int) * 16) = (p : Int) * 16 := by rw [IntKind.wrap_i64]; omega
            have HSX := Lib.hid (HR2.out.below ((Below.refl w4.heap.size w4).alloc (Nat.le_refl _) (.cells #[.int .u8 (y.toNat : Int)] 5)))
            have HSR : Hid (∀ j u, (Lib.byteCells [y])[j]? = some u → (w4.alloc (.cells #[.int .u8 (y.toNat : Int)] 5)).cell? ((⟨w4.heap.size, 0, none⟩ : Addr).add j) = some u) := Lib.hid (by
              intro j u hj
              have hj1 : j < 1 := (List.getElem?_eq_some_iff.1 hj).1
              obtain rfl : j = 0 := by omega
              rw [Addr.add_lit, cell_of_heap (at_new _ _)]
              exact hj)
            have HWB : Hid (w.heap.size ≤ w4.heap.size) := Lib.hid HB2.out.size
            have HBA : Hid (Below w.heap.size w (w4.alloc (.cells #[.int .u8 (y.toNat : Int)] 5))) := Lib.hid (HB2.out.alloc HB2.out.size _)
            have HUL := HU.out.2
            clear hb16 hc16 xb xc hy hp hr hyv
            go_wp2_with (first
              | (at_builtin; refine wpList_append_MB (B := a + 1) rfl (.tmp 44) (.tmp 50) 114 rfl ib Tryz.underlying114 HIB.out.1 HIB.out.2.1 HIB.out.2.2.1 HIB.out.2.2.2 u6 m [y] ⟨w4.heap.size, 0, none⟩ 1 1 rfl HSR.out rfl HSX.out rfl (by simp; omega) (by obtain ⟨g5, c5, h5⟩ := RowM.slice HSX.out; have := HSX.out.lt g5 (by rw [h5]; simp [ob, Value.ownBlock]); omega) ?_
                 intro v2 w5 hm2 hg2
                 have HR5 := Lib.hid hm2
                 have HB5 : Hid (Below w.heap.size w w5) := Lib.hid (HBA.out.trans ⟨hg2.os, hg2.tape, hg2.output, hg2.size, fun k hk => hg2.block k (Nat.lt_of_lt_of_le hk HBA.out.size) (fun e => by have := (HSX.out.lt k (by rw [ob, ← e]; simp)).1; omega)⟩)
                 clear hm2 hg2))
            go_roundw
            case rel => exact ⟨i + 2, m ++ [y], by omega, by omega, by go_num, Lib.hid ⟨HSO.out, by simp; omega⟩, HR5, HB5⟩
            case measure => simp [RowKit.intOf]; omega
          · have xb : ixd b = ((dg b : Nat) : Int) := by rw [ixd, if_pos hb16]
            have xc : ixd c = -1 := by rw [ixd, if_neg hc16]
            rw [xb, xc]
            have HN : Hid (uhT l = [] ∧ uhE l = 4) := Lib.hid (by
              have : unhx l = none := by rw [HLL.out]; exact unhx_none (fun h => hc16 h.2) _ HTL.out
              exact ⟨by rw [uhT, this]; rfl, by rw [uhE, this]; rfl⟩)
            obtain ⟨p, hp⟩ : ∃ p, p = dg b := ⟨_, rfl⟩
            rw [← hp]
            have hp0 : (0 : Int) ≤ (p : Int) := by omega
            have hpn : ¬ (p : Int) < 0 := by omega
            clear hb16 hc16 xb xc hp
            go_wp2
            go_ret2
            rw [HN.out.1, HN.out.2]
            exact ⟨rfl, HB2.out⟩
        · have xb : ixd b = -1 := by rw [ixd, if_neg hb16]
          rw [xb]
          have HN : Hid (uhT l = [] ∧ uhE l = 4) := Lib.hid (by
            have : unhx l = none := by rw [HLL.out]; exact unhx_none (fun h => hb16 h.1) _ HTL.out
            exact ⟨by rw [uhT, this]; rfl, by rw [uhE, this]; rfl⟩)
          clear hb16 xb
          go_wp2
          go_ret2
          rw [HN.out.1, HN.out.2]
          exact ⟨rfl, HB2.out⟩
      · obtain rfl : i = l.length := by omega
        have HN : Hid (uhT l = m ∧ uhE l = 0) := Lib.hid (by
          have := HU.out.1
          rw [List.take_length] at this
          exact ⟨by rw [uhT, this]; rfl, by rw [uhE, this]; rfl⟩)
        have hcv2 := HR.out.conv
        clear hlt
        go_wp2
        go_ret2
        rw [HN.out.1, HN.out.2]
        exact ⟨rfl, HB.out⟩
end Go.Proofs.YthcjjekkjbidlaaGreatDoor.Sh
