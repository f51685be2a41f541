import Derived.Test.YtdedmhmomoejkaaDoorZ1
import Derived.Stop.LaidErr
import Derived.Lib.LaidTab
import Derived.Lib.ItoaNum
namespace Go.Proofs.YtdedmhmomoejkaaDoor.V
open Go Go.RowKit Go.Proofs.YtdedmhmomoejkaaDoorW.PrintLast
open Go.Proofs
set_option linter.unusedVariables false
set_option linter.unusedSimpArgs false
attribute [local irreducible] awp
set_option maxRecDepth 100000
abbrev laid5 : List (String × DataW Unit) := [("math/bits.deBruijn32tab", Rows.laid_math_bits_deBruijn32tab), ("math/bits.deBruijn64tab", Rows.laid_math_bits_deBruijn64tab), ("internal/strconv.uint64pow10", Rows.laid_internal_strconv_uint64pow10), ("strconv.ErrRange", Rows.laid_strconv_ErrRange), ("strconv.ErrSyntax", Rows.laid_strconv_ErrSyntax)]
theorem row280 (u : TypeId) (h : Tryd.prog.typeName? 3 u = some "*errors.errorString") : u = 280 :=
  typeName_ptr_named (nm := "errors.errorString") (by kernel_rfl) (by kernel_rfl) (by decide) u h
theorem lt_var {P : Program} {W : World} {n : String} {g : Nat} {cs : Array Value} (hg : P.globalNamed n = some g) (h : W.var? P n = some cs) : g < W.heap.size := by
  unfold World.var? at h
  simp only [hg, Option.bind_some] at h
  rcases Nat.lt_or_ge g W.heap.size with h' | h'
  · exact h'
  · simp [Array.getElem?_eq_none h'] at h
theorem start5 {W : World} (h0 : laidMetH Tryd.prog laid5 W) : Start W ∧ ∀ g ∈ glIds, g < W.heap.size := by
  rw [MakeChecks.laidMetH_plain _ _ _ (by kernel_rfl)] at h0
  have h3 : laidMet Tryd.prog (("internal/strconv.uint64pow10", Lib.tabData .u64 Lib.pow10Tab) :: [("strconv.ErrRange", Rows.laid_strconv_ErrRange), ("strconv.ErrSyntax", Rows.laid_strconv_ErrSyntax)]) W := h0.tail.tail
  have hT : Lib.TabIs Tryd.prog W "internal/strconv.uint64pow10" .u64 Lib.pow10Tab := Lib.tabIs_of_head (g := 1) (t := 261) (n := 20) (e := 22) (by kernel_rfl) (by kernel_rfl) Tryd.underlying261 Tryd.underlying22 (by kernel_rfl) (by kernel_rfl) h3
  obtain ⟨a1, s1, v1, _⟩ := laid_sentinel (g := 5) h3.tail (by kernel_rfl) (by kernel_rfl) Tryd.underlying218 row280 Tryd.underlying280 Tryd.underlying282 rfl rfl Tryd.underlying9 (by kernel_rfl) (by kernel_rfl)
  obtain ⟨a2, s2, v2, _⟩ := laid_sentinel (g := 4) h3.tail.tail (by kernel_rfl) (by kernel_rfl) Tryd.underlying218 row280 Tryd.underlying280 Tryd.underlying282 rfl rfl Tryd.underlying9 (by kernel_rfl) (by kernel_rfl)
  refine ⟨⟨hT, ⟨_, _, v2⟩, ⟨_, _, v1⟩⟩, fun g hg => ?_⟩
  have hc : g = 1 ∨ g = 4 ∨ g = 5 := by simpa [glIds] using hg
  rcases hc with rfl | rfl | rfl
  · exact lt_var (P := Tryd.prog) (n := "internal/strconv.uint64pow10") (by kernel_rfl) hT
  · exact lt_var (P := Tryd.prog) (n := "strconv.ErrSyntax") (by kernel_rfl) v2
  · exact lt_var (P := Tryd.prog) (n := "strconv.ErrRange") (by kernel_rfl) v1

end Go.Proofs.YtdedmhmomoejkaaDoor.V
