import Derived.Test.YthafcbbkjdbomaaDoorZ2
namespace Go.Proofs.YthafcbbkjdbomaaDoor.V
open Go Go.RowKit Go.Proofs.YthafcbbkjdbomaaDoorW.PrintLast
open Go.Proofs
set_option linter.unusedVariables false
set_option linter.unusedSimpArgs false
attribute [local irreducible] awp
set_option maxRecDepth 100000
abbrev laid7 : List (String × DataW Unit) := [("math/bits.deBruijn32tab", Rows.laid_math_bits_deBruijn32tab), ("math/bits.deBruijn64tab", Rows.laid_math_bits_deBruijn64tab), ("internal/strconv.uint64pow10", Rows.laid_internal_strconv_uint64pow10), ("unicode/utf8.acceptRanges", Rows.laid_unicode_utf8_acceptRanges), ("strconv.ErrRange", Rows.laid_strconv_ErrRange), ("strconv.ErrSyntax", Rows.laid_strconv_ErrSyntax), ("unicode/utf8.first", Rows.laid_unicode_utf8_first)]
theorem start7 {W : World} (h0 : laidMetH Tryd.prog laid7 W) (hsh : W.ShapedOpen Tryd.prog) : Start W ∧ ∀ g ∈ glIds, g < W.heap.size := by
  rw [MakeChecks.laidMetH_plain _ _ _ (by kernel_rfl)] at h0
  obtain ⟨m, hm⟩ := maxLen_cell hsh
  have h3 : laidMet Tryd.prog (("internal/strconv.uint64pow10", Lib.tabData .u64 Lib.pow10Tab) :: [("unicode/utf8.acceptRanges", Rows.laid_unicode_utf8_acceptRanges), ("strconv.ErrRange", Rows.laid_strconv_ErrRange), ("strconv.ErrSyntax", Rows.laid_strconv_ErrSyntax), ("unicode/utf8.first", Rows.laid_unicode_utf8_first)]) W := h0.tail.tail
  have hT : Lib.TabIs Tryd.prog W "internal/strconv.uint64pow10" .u64 Lib.pow10Tab := Lib.tabIs_of_head (g := 0) (t := 114) (n := 20) (e := 68) (by kernel_rfl) (by kernel_rfl) Tryd.underlying114 Tryd.underlying68 (by kernel_rfl) (by kernel_rfl) h3
  obtain ⟨a1, s1, v1, _⟩ := laid_sentinel (g := 5) h3.tail.tail (by kernel_rfl) (by kernel_rfl) Tryd.underlying86 rowErr Tryd.underlying142 Tryd.underlying144 rfl rfl Tryd.underlying9 (by kernel_rfl) (by kernel_rfl)
  obtain ⟨a2, s2, v2, _⟩ := laid_sentinel (g := 4) h3.tail.tail.tail (by kernel_rfl) (by kernel_rfl) Tryd.underlying86 rowErr Tryd.underlying142 Tryd.underlying144 rfl rfl Tryd.underlying9 (by kernel_rfl) (by kernel_rfl)
  refine ⟨⟨hT, ⟨_, _, v2⟩, ⟨_, _, v1⟩, m, hm⟩, fun g hg => ?_⟩
  have hc : g = 0 ∨ g = 1 ∨ g = 4 ∨ g = 5 := by simpa [glIds] using hg
  rcases hc with rfl | rfl | rfl | rfl
  · exact lt_var (P := Tryd.prog) (n := "internal/strconv.uint64pow10") (by kernel_rfl) hT
  · exact lt_cell hm
  · exact lt_var (P := Tryd.prog) (n := "strconv.ErrSyntax") (by kernel_rfl) v2
  · exact lt_var (P := Tryd.prog) (n := "strconv.ErrRange") (by kernel_rfl) v1

end Go.Proofs.YthafcbbkjdbomaaDoor.V
