import Derived.Test.YthinpbnnpelhhaaGreatDoorS2
import Derived.Test.YthinpbnnpelhhaaGreatDoorSh
import Derived.Lib.AppendIntMem
import Derived.Lib.SmallJoins
namespace Go.Proofs.YthinpbnnpelhhaaGreatDoor.V
open Go Go.RowKit Go.Proofs.YthinpbnnpelhhaaGreatDoorW.PrintLast
open Go.Proofs
set_option linter.unusedVariables false
set_option linter.unusedSimpArgs false
attribute [local irreducible] awp
/-! The library's functions that words need. -/
theorem gl_var {w w0 : World} (hg : ∀ g, g ∈ glIds → w.heap[g]? = w0.heap[g]?) {n : String} {g : Nat} (hn : Tryz.prog.globalNamed n = some g) (hi : g ∈ glIds) : w.var? Tryz.prog n = w0.var? Tryz.prog n := by
  unfold World.var?
  rw [hn]
  simp only [Option.bind_some, hg g hi]
theorem c86 (n : Int) (h0 : -9223372036854775808 ≤ n) (h1 : n ≤ 9223372036854775807) : PC Tryz.prog 86 [A.int .i64 n, A.int .i64 10] [] (fun r bx => r = A.str (ofL (Lib.itoa n)) ∧ bx = []) :=
  PC_valG [.int .i64 n, .int .i64 10] (.string (ofL (Lib.itoa n))) Tryz.func86 fun w w0 hs hg =>
    (Tryz.strconv_FormatInt_10 n h0 h1 w (by unfold Lib.TabIs; rw [gl_var hg (g := 1) (by kernel_rfl) (by decide)]; exact hs.1)).mono fun e w' ⟨h, k, os, e2⟩ => ⟨h, by subst e2; exact Lib.below_grow _ w (Nat.le_refl _) k os⟩
theorem c79 (n : Int) (h0 : -9223372036854775808 ≤ n) (h1 : n ≤ 9223372036854775807) : PC Tryz.prog 79 [A.int .i64 n] [] (fun r bx => r = A.str (ofL (Lib.itoa n)) ∧ bx = []) := by
  refine enter (rs := [.tmp 2]) mx Tryz.func79 Tryz.ntmps79 fun Q0 hQ0 => ?_
  refine sq fun _ _ => ?_
  refine rg (sg ?_)
  refine nx ?_
  refine sq fun _ _ => ?_
  refine rg (sg ?_)
  refine cl [] (sg ?_)
  refine (c86 _ (by first | assumption | omega | trivial | rfl) (by first | assumption | omega | trivial | rfl)).mono ?_
  rintro r bx ⟨rfl, rfl⟩
  refine sg ?_
  refine nx ?_
  refine rt ?_
  refine f1 (g := sg ?_)
  exact ax [] ⟨rfl, rfl⟩

end Go.Proofs.YthinpbnnpelhhaaGreatDoor.V
