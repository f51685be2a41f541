import Derived.Test.YthinpbnnpelhhaaGreatDoorV22
namespace Go.Proofs.YthinpbnnpelhhaaGreatDoor.V
open Go Go.RowKit Go.Proofs.YthinpbnnpelhhaaGreatDoorW.PrintLast
open Go.Proofs
set_option linter.unusedVariables false
set_option linter.unusedSimpArgs false
attribute [local irreducible] awp
/-! A region with several calls, walked part by part: what is left stays hidden. -/
/-- The operations that are left. -/
def HR (P : Program) (T : Ty) (ops : Array Oper) (l : List Oper) (k : St → Prop) (σ : St) : Prop := aops P T ops l σ k
theorem aops_app {P : Program} {T : Ty} {ops : Array Oper} {b : List Oper} {k : St → Prop} : ∀ (a : List Oper) (σ : St), aops P T ops (a ++ b) σ k = aops P T ops a σ (fun σ' => aops P T ops b σ' k)
  | [], σ => rfl
  | o :: r, σ => by
    show aoper P T none ops o σ (fun σ' => aops P T ops (r ++ b) σ' k) = aoper P T none ops o σ (fun σ' => aops P T ops r σ' (fun σ' => aops P T ops b σ' k))
    rw [show (fun σ' => aops P T ops (r ++ b) σ' k) = fun σ' => aops P T ops r σ' (fun σ' => aops P T ops b σ' k) from funext fun σ' => aops_app r σ']
theorem hr {P : Program} {T : Ty} {ops : Array Oper} {l : List Oper} {k : St → Prop} {σ : St} (n : Nat) (h : aops P T ops (l.take n) σ (HR P T ops (l.drop n) k)) : HR P T ops l k σ := by
  show aops P T ops l σ k
  rw [← List.take_append_drop n l, aops_app]
  exact h
theorem hrl {P : Program} {T : Ty} {ops : Array Oper} {l : List Oper} {k : St → Prop} {σ : St} (h : aops P T ops l σ k) : HR P T ops l k σ := h
theorem rgs {P : Program} {T : Ty} {ops : Array Oper} {Q : AE → St → Prop} {σ : St} {id : Nat} (n : Nat) (h : aops P T ops (ops.toList.take n) σ (HR P T ops (ops.toList.drop n) (Q .normal))) : awp P T (.region id ops false) Q σ := rg (hr n h)
theorem sgt {p q : Prop} (hq : q) (h : q → p := by
  intro hq
  simp only [go_sem, List.take_succ_cons, List.take_zero, List.drop_succ_cons, List.drop_zero, Nat.reduceAdd, Nat.reduceSub, Nat.reduceMul, Nat.reduceLT, Nat.reduceLeDiff, Nat.reduceEqDiff, reduceIte, reduceCtorEq, if_true, if_false, Int.reduceEq, Int.reduceLT, Int.reduceLE, Int.reduceAdd, Int.reduceSub, Int.reduceMul, Int.reduceNeg, Int.reduceToNat, decide_true, decide_false, Nat.reduceBEq]
  exact hq) : p := h hq

end Go.Proofs.YthinpbnnpelhhaaGreatDoor.V
