import Derived.Test.YthinpbnnpelhhaaGreatDoorV21
namespace Go.Proofs.YthinpbnnpelhhaaGreatDoor.V
open Go Go.RowKit Go.Proofs.YthinpbnnpelhhaaGreatDoorW.PrintLast
open Go.Proofs
set_option linter.unusedVariables false
set_option linter.unusedSimpArgs false
attribute [local irreducible] awp
--IMP V21
/-! More words for walks. -/
abbrev xI (n : Int) : L := .c (.v (.int .i64 n))
abbrev xB (b : Bool) : L := .c (.v (.bool b))
abbrev xS (s : ByteArray) : L := .c (.v (.string s))
abbrev xRow (n s : Nat) (f : Nat → Nat → C) : A := .one (.c (.sl n s f))
abbrev xOwn (i s o n : Nat) : A := .one (.own i s o n)
abbrev xPtr (i o : Nat) : A := .one (.ptr i o)
attribute [go_sem] xI xB xS xRow xOwn xPtr
theorem take_ml {α β : Type} (l : List α) (f : α → β) : List.take l.length (l.map f) = l.map f := by
  rw [← List.length_map (f := f), List.take_length]
theorem take_ml1 {α β : Type} (l : List α) (f : α → β) (x : β) : List.take (l.length + 1) (l.map f ++ [x]) = l.map f ++ [x] := by
  rw [List.take_of_length_le]
  simp
attribute [go_sem] take_ml take_ml1 List.map_append
/-- A count that goes on. -/
theorem wrap_succ {i : Nat} (h : i < 4611686018427387904) : IntKind.i64.wrap ((i : Int) + 1) = ((i + 1 : Nat) : Int) := by
  rw [IntKind.wrap_i64]; omega
theorem keq {a b : St} (h : a = b := by
  first
    | exact rfl
    | (simp only [go_sem, Nat.reduceAdd, Nat.reduceSub, Nat.reduceMul, Nat.reduceLT, Nat.reduceLeDiff, Nat.reduceEqDiff, reduceIte, reduceCtorEq, if_true, if_false, Int.reduceEq, Int.reduceLT, Int.reduceLE, Int.reduceAdd, Int.reduceSub, Int.reduceMul, Int.reduceNeg, Int.reduceToNat, decide_true, decide_false, Nat.reduceBEq]; done)
    | (simp only [go_sem, Nat.reduceAdd, Nat.reduceSub, Nat.reduceMul, Nat.reduceLT, Nat.reduceLeDiff, Nat.reduceEqDiff, reduceIte, reduceCtorEq, if_true, if_false, Int.reduceEq, Int.reduceLT, Int.reduceLE, Int.reduceAdd, Int.reduceSub, Int.reduceMul, Int.reduceNeg, Int.reduceToNat, decide_true, decide_false, Nat.reduceBEq]
       exact rfl)) : a = b := h
theorem viewR {α : Type} (f : α → List C) (l : List α) {bx : List B} {id sz n e : Nat} (h : bx[id]? = some (.arr (l.map fun x => lc (f x)) sz e)) (hn : l.length = n) : viewL bx (.own id sz 0 n) = .c (rowA sz f l) := by
  unfold viewL
  simp only [h]
  rw [if_pos ⟨trivial, by rw [List.length_map]; omega⟩]
  subst hn
  unfold rowA
  rw [← vw_lc]
  simp only [Nat.zero_add]
/-- The end of a function that returns an own row: it is looked at. -/
theorem axr {α : Type} {Q : A → List B → Prop} {σ : St} {id sz n e : Nat} (f : α → List C) (out : List α) (h : Q (.one (.c (rowA sz f out))) ((σ.ids []).map fun i => mapB (subL σ.bx (pos (σ.ids []))) (σ.bx.getD i .hid))) (hb : σ.bx[id]? = some (.arr (out.map fun x => lc (f x)) sz e) := by exact rfl) (hn : out.length = n := by first | rfl | omega | (simp; done)) (hp : pos (σ.ids []) id = none := by exact rfl) (hg : σ.good [] := by simp [St.good, St.ids, upto]) : aexit Q σ (.one (.own id sz 0 n)) := by
  refine ax [] ?_ hg
  have e : mapA (subL σ.bx (pos (σ.ids []))) (.one (.own id sz 0 n)) = .one (.c (rowA sz f out)) := by
    simp only [mapA, subL, hp]
    exact congrArg A.one (viewR f out hb hn)
  rw [e]
  exact h
theorem sub_rep {n : Nat} {e : List L} {g : L → L} : (List.replicate n e).map (fun x => x.map g) = List.replicate n (e.map g) := List.map_replicate
attribute [go_sem] true_implies false_implies not_true_eq_false not_false_eq_true forall_const sub_rep vw_lc Nat.le_refl rowA List.map_set List.length_set
/-- The same, of two results, the first of which is an own row. -/
theorem axr2 {α : Type} {Q : A → List B → Prop} {σ : St} {id sz n e : Nat} {ls : List L} {g : Bool} (f : α → List C) (out : List α) (h : Q (.tup [([.c (rowA sz f out)], false), (ls.map (subL σ.bx (pos (σ.ids []))), g)]) ((σ.ids []).map fun i => mapB (subL σ.bx (pos (σ.ids []))) (σ.bx.getD i .hid))) (hb : σ.bx[id]? = some (.arr (out.map fun x => lc (f x)) sz e) := by exact rfl) (hn : out.length = n := by first | rfl | omega | (simp; done)) (hp : pos (σ.ids []) id = none := by exact rfl) (hg : σ.good [] := by simp [St.good, St.ids, upto]) : aexit Q σ (.tup [([.own id sz 0 n], false), (ls, g)]) := by
  refine ax [] ?_ hg
  have e : mapA (subL σ.bx (pos (σ.ids []))) (.tup [([.own id sz 0 n], false), (ls, g)]) = .tup [([.c (rowA sz f out)], false), (ls.map (subL σ.bx (pos (σ.ids []))), g)] := by
    simp only [mapA, subL, hp, List.map_cons, List.map_nil, viewR f out hb hn]
  rw [e]
  exact h
inductive leAs : List A → List A → Prop where
  | nil : leAs [] []
  | cons {a a' : A} {r r' : List A} (h : leA a a') (hr : leAs r r') : leAs (a :: r) (a' :: r')
theorem leAs.at_ {l l' : List A} (h : leAs l l') : l.length = l'.length ∧ ∀ (j : Nat) a a', l[j]? = some a → l'[j]? = some a' → leA a a' := by
  induction h with
  | nil => exact ⟨rfl, fun j a a' h => by cases j <;> cases h⟩
  | cons h hr ih =>
    refine ⟨by simp [ih.1], fun j a a' h1 h2 => ?_⟩
    cases j with
    | zero =>
      obtain rfl := Option.some.inj h1
      obtain rfl := Option.some.inj h2
      exact h
    | succ j => exact ih.2 j a a' h1 h2
theorem le_row0 {α : Type} {sz : Nat} {f : α → List C} : leC (.v (.slice none 0 0)) (rowA sz f []) := .nil _ _
/-- A contract, used where more is known of what is handed over (nil rows, say). -/
theorem PC.le {P : Program} {f : FuncId} {args args' : List A} {Q : A → List B → Prop} (h : PC P f args' [] Q) (hl : leAs args args' := by
  repeat first | exact leAs.nil | exact leLs.nil | exact leA.refl _ | exact leL.refl _ | refine leAs.cons ?_ ?_ | refine leLs.cons ?_ ?_ | exact leL.c _ _ (leC.nil _ _) | exact leL.c _ _ le_row0 | refine leA.agg ?_ | refine leA.one ?_) : PC P f args [] Q :=
  PC.args h hl.at_.1 hl.at_.2 .nil (fun b h => (nomatch h))
/-- A contract out of one of the library's: plain values in, whatever that it is told of comes out; nothing turned. -/
theorem PC_libG {P : Program} {f : FuncId} {fn : Func} (vs : List Value) {Q : A → List B → Prop} (hf : P.funcs[f]? = some fn) (h : ∀ w w0 : World, Start w0 → (∀ g, g ∈ glIds → w.heap[g]? = w0.heap[g]?) → Calls P f vs.toArray w fun e w' => ∃ v r, e = .returned v ∧ Below w.heap.size w w' ∧ Q r [] ∧ ∀ ok, RA (RL [] ok w') r v)
    (hn : (fn.name == "runtime.NumGoroutine") = false := by kernel_rfl) (hb : fn.body.isSome = true := by kernel_rfl) : PC P f (vs.map fun x => .one (.c (.v x))) [] Q := by
  refine ⟨⟨fn, hf, hn, hb⟩, fun ok μ0 w cargs _ hm hl ha => ?_⟩
  have hμ : μ0 = [] := List.eq_nil_of_length_eq_zero hm.len
  subst hμ
  have hc : cargs = vs.toArray := by
    apply Array.ext'
    apply List.ext_getElem?
    intro j
    rw [List.length_map] at hl
    have hcl : cargs.toList.length = cargs.size := Array.length_toList
    by_cases hj : j < vs.length
    · obtain ⟨u, h1, h2⟩ := ha j (.one (.c (.v (vs[j]'hj)))) (by rw [List.getElem?_map, List.getElem?_eq_getElem hj]; rfl)
      have e : u = vs[j]'hj := h2
      subst e
      rw [Array.getElem?_toList, h1]
      simp [hj]
    · rw [List.getElem?_eq_none (by omega), List.getElem?_eq_none (by simp; omega)]
  subst hc
  obtain ⟨w0, hs, hg0⟩ := hm.gl
  refine (h w w0 hs fun g hg => (hg0 g hg).2).mono fun e w' ⟨v, r, h1, h2, h3, h4⟩ => ⟨v, r, [], [], ok, h1, h3, h4 ok, ?_, fun g hg => by simp at hg, Fw.of _ h2, fun _ h => h, fun _ h => .inl h⟩
  exact ⟨rfl, fun i j b b' g h => by simp at h, fun i b g h => by simp at h, fun g hg => by simp at hg, fun k hk => Nat.lt_of_lt_of_le (hm.small k hk) h2.size, fun i b g h => by simp at h, hm.gl.keep (fun _ h => h) (fun k hk => h2.block k (hm.small k hk))⟩
theorem RA_pair {μ : List Nat} {ok : Nat → Prop} {w : World} {x y : L} {u v : Value} (h1 : RL μ ok w x u) (h2 : RL μ ok w y v) : RA (RL μ ok w) (.tup [([x], false), ([y], false)]) (.tuple #[u, v]) := by
  refine ⟨_, rfl, rfl, fun j z hj => ?_⟩
  rcases j with _ | _ | j
  · obtain rfl := Option.some.inj hj
    exact ⟨u, rfl, fun h => (nomatch h), fun _ => ⟨x, rfl, h1⟩⟩
  · obtain rfl := Option.some.inj hj
    exact ⟨v, rfl, fun h => (nomatch h), fun _ => ⟨y, rfl, h2⟩⟩
  · cases hj
end Go.Proofs.YthinpbnnpelhhaaGreatDoor.V
