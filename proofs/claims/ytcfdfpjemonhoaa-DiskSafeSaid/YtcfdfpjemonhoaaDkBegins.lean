/-
  The contract of the law's begins: each file of the first list is in the second one, with bytes that begin with its own.
-/
import Derived.Test.YtcfdfpjemonhoaaDkSame
namespace Go.Proofs.Ytcfdfpjemonhoaa.Dk
open Go.RowKit Go.Maps Go.WideMaps

/-- A told file that goes on from another. -/
def Grown (t u : Told) : Prop := t.1 = u.1 ∧ t.2.1.length ≤ u.2.1.length ∧ u.2.1.take t.2.1.length = t.2.1
instance (t u : Told) : Decidable (Grown t u) := inferInstanceAs (Decidable (_ ∧ _ ∧ _))

theorem ext_take (l : List UInt8) (n : Nat) : ((⟨l.toArray⟩ : ByteArray).extract 0 n).toList = l.take n := by
  rw [Lib.toList_data, Lib.extract_data]
  simp

set_option maxHeartbeats 16000000 in
set_option maxRecDepth 100000 in
theorem begins_yes (w : World) (v u : Value) (l m : List Told) (hl : TRow w v l) (hm : TRow w u m) (hs : ∀ t ∈ l, ∃ q ∈ m, Grown t q) (hn : l.length ≤ 1000000) (hn2 : m.length ≤ 1000000) (hd : ∀ t ∈ l, t.2.1.length ≤ 134217728) (hd2 : ∀ t ∈ m, t.2.1.length ≤ 134217728) :
    Calls Try.prog 22 #[v, u] w fun e w' => e = .returned (.bool true) ∧ Below w.heap.size w w' := by
  obtain ⟨a, ca, rfl, hA⟩ := hl
  obtain ⟨b, cb, rfl, hB⟩ := hm
  have HA := Lib.hid hA; have HB := Lib.hid hB; have HS := Lib.hid hs; have HD := Lib.hid hd; have HD2 := Lib.hid hd2
  clear hA hB hs hd hd2
  go_enter Try.func22, Try.ntmps22
  go_wp2
  go_loopw [5] (fun s5 wr => ∃ k : Nat, k ≤ l.length ∧ s5 = .int .i64 k ∧ Below w.heap.size w wr) (fun s5 _ => l.length - (RowKit.intOf s5).toNat)
  case atStart => exact ⟨0, by omega, rfl, Below.refl _ _⟩
  case round =>
    obtain ⟨k, hk, rfl, hb⟩ := hrel
    by_cases hlt : k < l.length
    · obtain ⟨t, ht⟩ : ∃ t, l[k]? = some t := ⟨_, List.getElem?_eq_getElem hlt⟩
      have htm := List.mem_of_getElem? ht
      obtain ⟨g1, rfl, hg1, hc1⟩ := HA.out (List.ne_nil_of_mem htm)
      obtain ⟨x1, x2⟩ := hc1 k t ht
      have HEX := Lib.hid (HS.out t htm)
      have htl := HD.out t htm
      have hki : (k : Int) < (l.length : Int) := by omega
      have HBW := Lib.hid hb
      clear ht hc1 hb htm
      rename World => wo
      go_wp2
      go_loopw [6, 7] (fun s6 s7 wr => ∃ (j : Nat) (f : Bool), j ≤ m.length ∧ s7 = .int .i64 j ∧ s6 = .bool f ∧ Hid (∀ i q, i < j → m[i]? = some q → Grown t q → f = true) ∧ Below w.heap.size w wr) (fun _ s7 _ => m.length - (RowKit.intOf s7).toNat)
      case atStart => exact ⟨0, false, by omega, rfl, rfl, Lib.hid (fun i q hi => by omega), HBW.out⟩
      case round =>
        obtain ⟨j, f, hj, rfl, rfl, HF, hb⟩ := hrel
        by_cases hjt : j < m.length
        · obtain ⟨q, hq⟩ : ∃ q, m[j]? = some q := ⟨_, List.getElem?_eq_getElem hjt⟩
          have hqm := List.mem_of_getElem? hq
          obtain ⟨g2, rfl, hg2, hc2⟩ := HB.out (List.ne_nil_of_mem hqm)
          obtain ⟨y1, y2⟩ := hc2 j q hq
          have hql := HD2.out q hqm
          have a1 : wr.cell? ⟨g1, k * 3, none⟩ = some (.string ⟨t.1.toArray⟩) := (hb.cell (p := ⟨g1, k * 3, none⟩) hg1).trans x1
          have a2 : wr.cell? ⟨g1, k * 3 + 1, none⟩ = some (.string ⟨t.2.1.toArray⟩) := (hb.cell (p := ⟨g1, k * 3 + 1, none⟩) hg1).trans x2
          have a3 : wr.cell? ⟨g2, j * 3, none⟩ = some (.string ⟨q.1.toArray⟩) := (hb.cell (p := ⟨g2, j * 3, none⟩) hg2).trans y1
          have a4 : wr.cell? ⟨g2, j * 3 + 1, none⟩ = some (.string ⟨q.2.1.toArray⟩) := (hb.cell (p := ⟨g2, j * 3 + 1, none⟩) hg2).trans y2
          have hji : (j : Int) < (m.length : Int) := by omega
          have HQ := Lib.hid hq
          have HBR := Lib.hid hb
          clear hq hqm hc2 y1 y2 hb
          cases f with
          | true =>
            go_wp2
            go_quiet (fail)
            go_wp2
            go_roundw
            case measure => simp [RowKit.intOf]; omega
            case rel => exact ⟨j + 1, true, by omega, by go_num, rfl, Lib.hid (fun _ _ _ _ _ => rfl), HBR.out.trans ⟨rfl, rfl, rfl, Nat.le_refl _, fun _ _ => rfl⟩⟩
          | false =>
            by_cases hnm : t.1 = q.1
            · rw [← hnm] at a3
              by_cases hle : t.2.1.length ≤ q.2.1.length
              · go_wp2
                go_quiet (fail)
                go_wp2
                go_roundw
                case measure => simp [RowKit.intOf]; omega
                case rel => exact ⟨j + 1, _, by omega, by go_num, rfl, Lib.hid (fun i z hi hz hg => by
                  by_cases hij : i < j
                  · exact absurd (HF.out i z hij hz hg) (by decide)
                  · obtain rfl : i = j := by omega
                    obtain rfl := Option.some.inj (HQ.out.symm.trans hz)
                    rw [ext_take, hg.2.2]; simp), HBR.out.trans ⟨rfl, rfl, rfl, Nat.le_refl _, fun _ _ => rfl⟩⟩
              · have hlf : decide ((t.2.1.length : Int) ≤ (q.2.1.length : Int)) = false := by simp; omega
                go_wp2
                go_quiet (fail)
                go_wp2
                go_roundw
                case measure => simp [RowKit.intOf]; omega
                case rel => exact ⟨j + 1, false, by omega, by go_num, rfl, Lib.hid (fun i z hi hz hg => by
                  by_cases hij : i < j
                  · exact HF.out i z hij hz hg
                  · obtain rfl : i = j := by omega
                    obtain rfl := Option.some.inj (HQ.out.symm.trans hz)
                    exact absurd hg.2.1 hle), HBR.out.trans ⟨rfl, rfl, rfl, Nat.le_refl _, fun _ _ => rfl⟩⟩
            · have hne1 : (t.1 == q.1) = false := by simpa using hnm
              have hne2 : ((⟨t.1.toArray⟩ : ByteArray).toList == (⟨q.1.toArray⟩ : ByteArray).toList) = false := by rw [Lib.toList_data, Lib.toList_data, ba_data, ba_data]; exact hne1
              go_wp2
              go_quiet (fail)
              go_wp2
              go_roundw
              case measure => simp [RowKit.intOf]; omega
              case rel => exact ⟨j + 1, false, by omega, by go_num, rfl, Lib.hid (fun i z hi hz hg => by
                by_cases hij : i < j
                · exact HF.out i z hij hz hg
                · obtain rfl : i = j := by omega
                  obtain rfl := Option.some.inj (HQ.out.symm.trans hz)
                  exact absurd hg.1 hnm), HBR.out.trans ⟨rfl, rfl, rfl, Nat.le_refl _, fun _ _ => rfl⟩⟩
        · obtain rfl : j = m.length := by omega
          have hft : f = true := by
            obtain ⟨q, hqm, hgr⟩ := HEX.out
            obtain ⟨i, hi, rfl⟩ := List.getElem_of_mem hqm
            exact HF.out i _ hi (List.getElem?_eq_getElem hi) hgr
          subst hft
          have HBR := Lib.hid hb
          clear hb HF
          go_wp2
          go_roundw
          case measure => simp [RowKit.intOf]; omega
          case rel => exact ⟨k + 1, by omega, by go_num, HBR.out⟩
    · obtain rfl : k = l.length := by omega
      go_wp2
      go_ret
      exact ⟨rfl, hb⟩
end Go.Proofs.Ytcfdfpjemonhoaa.Dk
