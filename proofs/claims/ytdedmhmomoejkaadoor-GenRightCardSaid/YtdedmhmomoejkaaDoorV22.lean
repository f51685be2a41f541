import Derived.Test.YtdedmhmomoejkaaDoorV21
namespace Go.Proofs.YtdedmhmomoejkaaDoor.V
open Go Go.RowKit Go.Proofs.YtdedmhmomoejkaaDoorW.PrintLast
open Go.Proofs
set_option linter.unusedVariables false
set_option linter.unusedSimpArgs false
attribute [local irreducible] awp
--IMP V21
/-! More words for walks. -/
abbrev xI (n : Int) : L := .c (.v (.int .i64 n))
abbrev xB (b : Bool) : L := .c (.v (.bool b))
abbrev xS (s : ByteArray) : L := .c (.v (.string s))
abbrev xRow (n s : Nat) (f : Nat → Nat → C) : A := .one (.c (.sl n s f))
abbrev xOwn (i s o n : Nat) : A := .one (.own i s o n)
abbrev xPtr (i o : Nat) : A := .one (.ptr i o)
attribute [go_sem] xI xB xS xRow xOwn xPtr
theorem take_ml {α β : Type} (l : List α) (f : α → β) : List.take l.length (l.map f) = l.map f := by
  rw [← List.length_map (f := f), List.take_length]
theorem take_ml1 {α β : Type} (l : List α) (f : α → β) (x : β) : List.take (l.length + 1) (l.map f ++ [x]) = l.map f ++ [x] := by
  rw [List.take_of_length_le]
  simp
attribute [go_sem] take_ml take_ml1 List.map_append
/-- A count that goes on. -/
theorem wrap_succ {i : Nat} (h : i < 4611686018427387904) : IntKind.i64.wrap ((i : Int) + 1) = ((i + 1 : Nat) : Int) := by
  rw [IntKind.wrap_i64]; omega
theorem keq {a b : St} (h : a = b := by
  first
    | exact rfl
    | (simp only [go_sem, Nat.reduceAdd, Nat.reduceSub, Nat.reduceMul, Nat.reduceLT, Nat.reduceLeDiff, Nat.reduceEqDiff, reduceIte, reduceCtorEq, if_true, if_false, Int.reduceEq, Int.reduceLT, Int.reduceLE, Int.reduceAdd, Int.reduceSub, Int.reduceMul, Int.reduceNeg, Int.reduceToNat, decide_true, decide_false, Nat.reduceBEq]; done)
    | (simp only [go_sem, Nat.reduceAdd, Nat.reduceSub, Nat.reduceMul, Nat.reduceLT, Nat.reduceLeDiff, Nat.reduceEqDiff, reduceIte, reduceCtorEq, if_true, if_false, Int.reduceEq, Int.reduceLT, Int.reduceLE, Int.reduceAdd, Int.reduceSub, Int.reduceMul, Int.reduceNeg, Int.reduceToNat, decide_true, decide_false, Nat.reduceBEq]
       exact rfl)) : a = b := h
theorem viewR {α : Type} (f : α → List C) (l : List α) {bx : List B} {id sz n e : Nat} (h : bx[id]? = some (.arr (l.map fun x => lc (f x)) sz e)) (hn : l.length = n) : viewL bx (.own id sz 0 n) = .c (rowA sz f l) := by
  unfold viewL
  simp only [h]
  rw [if_pos ⟨trivial, by rw [List.length_map]; omega⟩]
  subst hn
  unfold rowA
  rw [← vw_lc]
  simp only [Nat.zero_add]
/-- The end of a function that returns an own row: it is looked at. -/
theorem axr {α : Type} {Q : A → List B → Prop} {σ : St} {id sz n e : Nat} (f : α → List C) (out : List α) (h : Q (.one (.c (rowA sz f out))) ((σ.ids []).map fun i => mapB (subL σ.bx (pos (σ.ids []))) (σ.bx.getD i .hid))) (hb : σ.bx[id]? = some (.arr (out.map fun x => lc (f x)) sz e) := by exact rfl) (hn : out.length = n := by first | rfl | omega | (simp; done)) (hp : pos (σ.ids []) id = none := by exact rfl) (hg : σ.good [] := by simp [St.good, St.ids, upto]) : aexit Q σ (.one (.own id sz 0 n)) := by
  refine ax [] ?_ hg
  have e : mapA (subL σ.bx (pos (σ.ids []))) (.one (.own id sz 0 n)) = .one (.c (rowA sz f out)) := by
    simp only [mapA, subL, hp]
    exact congrArg A.one (viewR f out hb hn)
  rw [e]
  exact h
theorem sub_rep {n : Nat} {e : List L} {g : L → L} : (List.replicate n e).map (fun x => x.map g) = List.replicate n (e.map g) := List.map_replicate
attribute [go_sem] sub_rep vw_lc Nat.le_refl rowA List.map_set List.length_set
/-- The same, of two results, the first of which is an own row. -/
theorem axr2 {α : Type} {Q : A → List B → Prop} {σ : St} {id sz n e : Nat} {ls : List L} {g : Bool} (f : α → List C) (out : List α) (h : Q (.tup [([.c (rowA sz f out)], false), (ls.map (subL σ.bx (pos (σ.ids []))), g)]) ((σ.ids []).map fun i => mapB (subL σ.bx (pos (σ.ids []))) (σ.bx.getD i .hid))) (hb : σ.bx[id]? = some (.arr (out.map fun x => lc (f x)) sz e) := by exact rfl) (hn : out.length = n := by first | rfl | omega | (simp; done)) (hp : pos (σ.ids []) id = none := by exact rfl) (hg : σ.good [] := by simp [St.good, St.ids, upto]) : aexit Q σ (.tup [([.own id sz 0 n], false), (ls, g)]) := by
  refine ax [] ?_ hg
  have e : mapA (subL σ.bx (pos (σ.ids []))) (.tup [([.own id sz 0 n], false), (ls, g)]) = .tup [([.c (rowA sz f out)], false), (ls.map (subL σ.bx (pos (σ.ids []))), g)] := by
    simp only [mapA, subL, hp, List.map_cons, List.map_nil, viewR f out hb hn]
  rw [e]
  exact h
inductive leAs : List A → List A → Prop where
  | nil : leAs [] []
  | cons {a a' : A} {r r' : List A} (h : leA a a') (hr : leAs r r') : leAs (a :: r) (a' :: r')
theorem leAs.at_ {l l' : List A} (h : leAs l l') : l.length = l'.length ∧ ∀ (j : Nat) a a', l[j]? = some a → l'[j]? = some a' → leA a a' := by
  induction h with
  | nil => exact ⟨rfl, fun j a a' h => by cases j <;> cases h⟩
  | cons h hr ih =>
    refine ⟨by simp [ih.1], fun j a a' h1 h2 => ?_⟩
    cases j with
    | zero =>
      obtain rfl := Option.some.inj h1
      obtain rfl := Option.some.inj h2
      exact h
    | succ j => exact ih.2 j a a' h1 h2
theorem le_row0 {α : Type} {sz : Nat} {f : α → List C} : leC (.v (.slice none 0 0)) (rowA sz f []) := .nil _ _
/-- A contract, used where more is known of what is handed over (nil rows, say). -/
theorem PC.le {P : Program} {f : FuncId} {args args' : List A} {Q : A → List B → Prop} (h : PC P f args' [] Q) (hl : leAs args args' := by
  repeat first | exact leAs.nil | exact leLs.nil | exact leA.refl _ | exact leL.refl _ | refine leAs.cons ?_ ?_ | refine leLs.cons ?_ ?_ | exact leL.c _ _ (leC.nil _ _) | exact leL.c _ _ le_row0 | refine leA.agg ?_ | refine leA.one ?_) : PC P f args [] Q :=
  PC.args h hl.at_.1 hl.at_.2 .nil (fun b h => (nomatch h))
end Go.Proofs.YtdedmhmomoejkaaDoor.V
