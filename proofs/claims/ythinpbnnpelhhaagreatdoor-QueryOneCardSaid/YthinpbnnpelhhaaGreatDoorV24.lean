import Derived.Test.YthinpbnnpelhhaaGreatDoorV23
namespace Go.Proofs.YthinpbnnpelhhaaGreatDoor.V
open Go Go.RowKit Go.Proofs.YthinpbnnpelhhaaGreatDoorW.PrintLast
open Go.Proofs
set_option linter.unusedVariables false
set_option linter.unusedSimpArgs false
attribute [local irreducible] awp
/-! A region whose order is drawn, walked step by step: what is left stays hidden. -/
def astep (P : Program) (T : Ty) (ops : Array Oper) (D : List Nat) (rec : Pl → Md → St → (St → Prop) → Prop) : Pl → Md → St → (St → Prop) → Prop
  | .nil, _, σ, k => k σ
  | .take i r, m, σ, k => match ops[i]? with
    | some o => match m with
      | .same => match areg T ops o (σ.hide D) with
        | some (p, x) => p ∧ rec r .same (σ.putO o.dst x) k
        | none => False
      | .old τ => match areg T ops o (τ.hide D), areg T ops o σ with
        | some (p, x), some (p', x') => p ∧ p' ∧ rec r (.old (τ.putO o.dst x)) (σ.putO o.dst x') k
        | _, _ => False
      | .gone => False
    | none => False
  | .pure i r, m, σ, k => match ops[i]? with
    | some o => match areg T ops o σ with
      | some (p, x) => memFree o.op = true ∧ p ∧ rec r (m.junk o.dst) (σ.putO o.dst x) k
      | none => False
    | none => False
  | .one i r, m, σ, k => match m with
    | .gone => False
    | m => match ops[i]? with
      | some o => aoper P T (some D) ops o σ fun σ' => rec r (m.after σ o.dst) σ' k
      | none => False
  | .last i r, m, σ, k => match ops[i]? with
    | some o => aoper P T none ops o σ fun σ' => rec r .gone σ' k
    | none => False
  | .two i j r s, m, σ, k => match m with
    | .gone => False
    | m => (match ops[i]? with
      | some o => aoper P T (some D) ops o σ fun σ' => rec r (m.after σ o.dst) σ' k
      | none => False) ∧ (match ops[j]? with
      | some o => aoper P T (some D) ops o σ fun σ' => rec s (m.after σ o.dst) σ' k
      | none => False)
def AF (P : Program) (T : Ty) (ops : Array Oper) (D : List Nat) (p : Pl) (m : Md) (σ : St) (k : St → Prop) : Prop := afork P T ops D p m σ k
theorem afs {P : Program} {T : Ty} {ops : Array Oper} {D : List Nat} {p : Pl} {m : Md} {σ : St} {k : St → Prop} (h : astep P T ops D (AF P T ops D) p m σ k) : AF P T ops D p m σ k := by
  unfold AF
  cases p <;> (unfold afork; exact h)
theorem dfs {P : Program} {T : Ty} {Q : AE → St → Prop} {σ : St} {id : Nat} {ops : Array Oper} (p : Pl) (D : List Nat) (h : AF P T ops D p .same σ (Q .normal)) (hp : planC ops p = true := by kernel_rfl) (hD : (D.all fun i => notHid σ.bx[i]?) = true := by rfl) : awp P T (.region id ops true) Q σ := df p D h hp hD
attribute [go_sem] astep Bool.false_and Bool.and_false Bool.true_and Bool.and_true

end Go.Proofs.YthinpbnnpelhhaaGreatDoor.V
