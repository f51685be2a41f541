import Derived.Test.YtdedmhmomoejkaaDoorG1
namespace Go.Proofs.YtdedmhmomoejkaaDoor.V
open Go Go.RowKit Go.Proofs.YtdedmhmomoejkaaDoorW.PrintLast
open Go.Proofs
set_option linter.unusedVariables false
set_option linter.unusedSimpArgs false
attribute [local irreducible] awp
--IMP G1
set_option maxRecDepth 100000
theorem wrap_ne {k : Int} (hk : 0 < k) (hk2 : k < 1000) : IntKind.u64.wrap k ≠ 0 := by
  rw [IntKind.wrap_u64]; omega
theorem c73 (k a : Int) (hk : 0 < k) (hk2 : k < 1000) : PC Tryd.prog 73 [.int .i64 k, .one (.ptr 0 0)] [dB a] (fun r bx => r = .int .i64 (drw k a) ∧ bx = [dB (nxt a)]) := by
  refine enter (rs := [.tmp 3]) mx Tryd.func73 Tryd.ntmps73 fun Q0 hQ0 => ?_
  have hne := wrap_ne hk hk2
  repeat first | refine nx ?_ | refine sq fun _ _ => ?_ | refine rg (sg ?_) | refine bl ?_ | refine sk (sg ?_) | refine xt (sg ?_) | refine lx (g := sg ?_) | refine ct (hx := ?_) | refine cf (hy := ?_) | refine lr (g := sg ?_) | refine rt (sg ?_) | refine rt ?_ | refine sk ?_ | refine xt ?_ | refine f1 (g := sg ?_) | refine f2 (g := sg ?_) | refine f3 (g := sg ?_) | refine And.intro (by first | assumption | omega) ?_

  refine ax [] ?_
  exact ⟨rfl, rfl⟩
theorem c121 (a : Int) : PC Tryd.prog 121 [dA] [dB a] (fun r bx => r = aCe (numS a).1 ∧ bx = [dB (numS a).2]) := by
  refine enter (rs := [.cell 2 35]) mx Tryd.func121 Tryd.ntmps121 fun Q0 hQ0 => ?_
  repeat first | refine nx ?_ | refine sq fun _ _ => ?_ | refine rg (sg ?_) | refine bl ?_ | refine sk (sg ?_) | refine xt (sg ?_) | refine lx (g := sg ?_) | refine ct (hx := ?_) | refine cf (hy := ?_) | refine lr (g := sg ?_) | refine rt (sg ?_) | refine rt ?_ | refine sk ?_ | refine xt ?_ | refine f1 (g := sg ?_) | refine f2 (g := sg ?_) | refine f3 (g := sg ?_) | refine And.intro (by first | assumption | omega) ?_
  refine cl [0] (sg ?_)
  refine (c73 20 a (by omega) (by omega)).mono ?_
  rintro r bx ⟨rfl, rfl⟩
  refine sg ?_
  repeat first | refine nx ?_ | refine sq fun _ _ => ?_ | refine rg (sg ?_) | refine bl ?_ | refine sk (sg ?_) | refine xt (sg ?_) | refine lx (g := sg ?_) | refine ct (hx := ?_) | refine cf (hy := ?_) | refine lr (g := sg ?_) | refine rt (sg ?_) | refine rt ?_ | refine sk ?_ | refine xt ?_ | refine f1 (g := sg ?_) | refine f2 (g := sg ?_) | refine f3 (g := sg ?_) | refine And.intro (by first | assumption | omega) ?_

  refine ax [] ?_
  exact ⟨rfl, rfl⟩
end Go.Proofs.YtdedmhmomoejkaaDoor.V
