/-
  The contracts of the disk's Read: where the file does not open, and a part of a file.
-/
import Derived.Test.YtcfdfpjemonhoaaDkCorrupt
namespace Go.Proofs.Ytcfdfpjemonhoaa.Dk
open Go.RowKit Go.Maps Go.WideMaps

set_option maxHeartbeats 2000000 in
set_option maxRecDepth 100000 in
theorem read_no (B : Nat) (w : World) (Y : Lay) (D D' : Dk) (S : ByteArray) (a b er : Int) (hS : S.size ≤ maxLen) (h : DiskAt B w Y D) (ok : Ok D) (e1 : openF D S.data.toList = ((none, er), D')) (hne : er ≠ 0) :
    Calls Try.prog 26 #[ptr Y.g, .string S, .int .i64 a, .int .i64 b] w (OpPost B Y w (.tuple #[.string ⟨#[]⟩, .int .i64 er]) D') := by
  have O := Lib.hid (open_any B w Y D S hS h ok)
  rw [e1] at O
  have hri : (er == 0) = false := by simpa using hne
  clear e1 hne ok h
  go_enter Try.func26, Try.ntmps26
  go_wp2_with fail
  refine O.out.mono ?_
  rintro e w1 ⟨kc', rfl, h1, ht⟩
  have H1 := Lib.hid h1; have HT := Lib.hid ht
  clear h1 ht O
  go_wp2
  go_ret2
  exact opPost_same _ H1.out HT.out (by simp [mem_g]) rfl rfl

set_option maxHeartbeats 4000000 in
set_option maxRecDepth 100000 in
theorem read_part (B : Nat) (w : World) (Y : Lay) (D D' : Dk) (S : ByteArray) (n : Nat) (f : Fl) (a b : Nat) (hS : S.size ≤ maxLen) (h : DiskAt B w Y D) (ok : Ok D) (e1 : openF D S.data.toList = ((some n, 0), D')) (hf : D'.files[n]? = some f)
    (hb : 0 < b) (hab : a + b ≤ f.data.length) (hfl : f.data.length ≤ 134217728) :
    Calls Try.prog 26 #[ptr Y.g, .string S, .int .i64 (a : Int), .int .i64 (b : Int)] w (OpPost B Y w (.tuple #[.string ⟨((f.data.drop a).take b).toArray⟩, .int .i64 0]) D') := by
  have O := Lib.hid (open_any B w Y D S hS h ok)
  rw [e1] at O
  have hw1 : IntKind.i64.wrap ((f.data.length : Int) - (a : Int)) = (f.data.length : Int) - (a : Int) := by rw [IntKind.wrap_i64]; omega
  have hw2 : IntKind.i64.wrap ((a : Int) + (b : Int)) = (a : Int) + (b : Int) := by rw [IntKind.wrap_i64]; omega
  have t1 : ¬ (f.data.length : Int) < (a : Int) := by omega
  have t2 : ¬ (f.data.length : Int) - (a : Int) < (b : Int) := by omega
  clear e1 ok h
  go_enter Try.func26, Try.ntmps26
  go_wp2_with fail
  refine O.out.mono ?_
  rintro e w1 ⟨kc', rfl, h1, ht⟩
  obtain ⟨p, hp⟩ : ∃ p, Y.fs[n]? = some p := ⟨_, List.getElem?_eq_getElem (by have := h1.lenF; have := (List.getElem?_eq_some_iff.1 hf).1; dsimp only at *; omega)⟩
  have hgp : Y.fs.getD n (0, .nilIface) = p := by rw [List.getD, hp]; rfl
  dsimp only
  rw [hgp]
  obtain ⟨k1, k2⟩ := h1.each n p f hp hf
  obtain ⟨hl, ⟨hq, hq2⟩ | ⟨g, cp, cur', hq, hg1, hg2, hg3, hg4, hg5, hg6⟩⟩ := k2
  · omega
  · have c0 : w1.cell? ⟨p.1, 0, none⟩ = some p.2 := cell_of_heap k1
    rw [hq] at c0
    have hcp : ¬ cp = a := by omega
    have hla : a + b ≤ cp := by omega
    rw [Nat.mul_one] at hg6
    have hlen : ((f.data.drop a).take b).length = b := by rw [List.length_take, List.length_drop]; omega
    have hcv := run_convert_bytes_back (P := Try.prog) w1 69 9 5 ⟨g, a, none⟩ (cp - a) ((f.data.drop a).take b) Try.underlying69 Try.underlying5 Try.underlying9 (fun j hj => by
      have hj' : j < b := by omega
      have hx := Lib.bytes_of_row hg2 hg6 (a + j) (by omega)
      have e : (((f.data.drop a).take b)[j]'hj) = f.data[a + j]'(by omega) := by rw [List.getElem_take, List.getElem_drop]
      rw [e, ← hx]
      rw [Addr.add_lit, Addr.add_lit, Nat.zero_add])
    rw [hlen] at hcv
    have H1 := Lib.hid h1; have HT := Lib.hid ht
    have hsub : (a : Int) + (b : Int) - (a : Int) = (b : Int) := by omega
    have hnat : a + b - a = b := by omega
    clear h1 ht O hgp k1 hq hp hf hg2 hg6 hlen hl
    go_wp2
    go_ret2
    exact opPost_same _ H1.out HT.out (by simp [mem_g]) rfl rfl
end Go.Proofs.Ytcfdfpjemonhoaa.Dk
