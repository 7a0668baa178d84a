/-
  What a row that lists strconv's errors and the tables of math/bits gives the contracts that read them; a world in which they are laid.
-/
import Derived.Test.YtofdhhemdoodaaaDoorNmTabs
import Derived.Test.YtofdhhemdoodaaaDoorNmRead
import Derived.Stop.LaidErr
import Derived.Lib.LaidIn
namespace Go.Proofs.YtofdhhemdoodaaaDoor.Nm
open Go.Lib

theorem star : "*" ++ "errors.errorString" = "*errors.errorString" := by decide
theorem rowErr (u : TypeId) (h : Tryd.prog.typeName? 3 u = some "*errors.errorString") : u = 109 :=
  typeName_ptr_named (nm := "errors.errorString") (by rw [star]; kernel_rfl) (by kernel_rfl) (by decide) u (by rw [star]; exact h)

def tz64Tab : List Nat := [0, 1, 56, 2, 57, 49, 28, 3, 61, 58, 42, 50, 38, 29, 17, 4]
theorem gDb : Tryd.prog.globalNamed "math/bits.deBruijn64tab" = some 7 := by kernel_rfl
theorem tDb : (Tryd.prog.globals[7]?).map (·.type) = some 114 := by kernel_rfl
theorem cDb : Tryd.prog.cellsOf 114 = 64 := by kernel_rfl

def dbZ : List Int := [0, 1, 56, 2, 57, 49, 28, 3, 61, 58, 42, 50, 38, 29, 17, 4, 62, 47, 59, 36, 45, 43, 51, 22, 53, 39, 33, 30, 24, 18, 12, 5, 63, 55, 48, 27, 60, 41, 37, 16, 46, 35, 44, 21, 52, 32, 23, 11, 54, 26, 40, 15, 34, 20, 31, 10, 25, 14, 19, 9, 13, 8, 7, 6]
theorem dbIs : (Rows.laid_math_bits_deBruijn64tab : DataW Unit) = tabData .u8 dbZ := by kernel_rfl

theorem tz_of_laid {W : World} {l : List (String × DataW Unit)} (h : laidMetH Tryd.prog l W) (hp : (l.all fun x => x.2.handleName?.isNone) = true)
    (h1 : ("math/bits.deBruijn64tab", Rows.laid_math_bits_deBruijn64tab) ∈ l) : Tz W := by
  rw [Go.MakeChecks.laidMetH_plain _ _ _ hp] at h
  have h2 := laidMet.reads h h1
  rw [dbIs] at h2
  obtain ⟨g, t, cs, fuel, p, hg, hty, hvar, hd⟩ := h2
  obtain rfl := Option.some.inj (gDb.symm.trans hg)
  obtain rfl := Option.some.inj (tDb.symm.trans hty)
  have hcs := cells_of_tab Tryd.underlying114 Tryd.underlying5 cU8 cDb hd
  have := World.var?_cell hg hvar 15
  unfold Tz
  rw [this, ← Array.getElem?_toList, hcs]
  rfl

theorem sent_of_laid {W : World} {n : String} {text : List UInt8} {r : List (String × DataW Unit)} {g : Nat} (h : laidMet Tryd.prog ((n, .iface "*errors.errorString" (.ptr (.agg [.lit (.string text)]))) :: r) W)
    (hg : Tryd.prog.globalNamed n = some g) (ht : (Tryd.prog.globals[g]?).map (·.type) = some 54) : ∃ t p, W.cell? ⟨g, 0, none⟩ = some (.iface t p) := by
  obtain ⟨a, s, hv, _⟩ := laid_sentinel h hg ht Tryd.underlying54 rowErr Tryd.underlying109 Tryd.underlying111 rfl rfl Tryd.underlying9 (by kernel_rfl) (by kernel_rfl)
  exact ⟨_, _, World.var?_cell hg hv 0⟩

theorem errs_of_laid {W : World} {x0 x1 x2 x3 : String × DataW Unit} {r : List (String × DataW Unit)}
    (h : laidMetH Tryd.prog (x0 :: x1 :: x2 :: x3 :: ("strconv.ErrRange", Rows.laid_strconv_ErrRange) :: ("strconv.ErrSyntax", Rows.laid_strconv_ErrSyntax) :: r) W)
    (hp : ((x0 :: x1 :: x2 :: x3 :: ("strconv.ErrRange", Rows.laid_strconv_ErrRange) :: ("strconv.ErrSyntax", Rows.laid_strconv_ErrSyntax) :: r).all fun x => x.2.handleName?.isNone) = true) : Errs W := by
  rw [Go.MakeChecks.laidMetH_plain _ _ _ hp] at h
  have h4 := h.tail.tail.tail.tail
  obtain ⟨t2, p2, h2⟩ := sent_of_laid h4 (g := 2) (by kernel_rfl) (by kernel_rfl)
  obtain ⟨t1, p1, h1⟩ := sent_of_laid h4.tail (g := 1) (by kernel_rfl) (by kernel_rfl)
  exact ⟨t1, p1, t2, p2, h1, h2, World.block_lt_of_cell? _ _ h1, World.block_lt_of_cell? _ _ h2⟩
end Go.Proofs.YtofdhhemdoodaaaDoor.Nm
