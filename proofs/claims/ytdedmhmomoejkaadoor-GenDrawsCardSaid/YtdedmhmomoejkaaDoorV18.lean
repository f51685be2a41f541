import Derived.Test.YtdedmhmomoejkaaDoorV17
namespace Go.Proofs.YtdedmhmomoejkaaDoor.V
open Go Go.RowKit Go.Proofs.YtdedmhmomoejkaaDoorW.PrintLast
set_option linter.unusedVariables false
set_option linter.unusedSimpArgs false
/-! The types, as the program has them; and steps through code, the rest held aside. -/
def kindOf (P : Program) (t : TypeId) : TypeDesc → TK
  | .struct fa => .struct (fa.toList.map fun f => (f.offset, f.type)) (!P.stoodInHeld t && !P.eqGuardType P.depth t && fa.toList.all fun f => f.name != "_")
  | .slice e => .slice e
  | .array n e => .array n e
  | d => .prim d
def tyOf (P : Program) : Ty := fun t => match P.underlying t, P.info? t with
  | some d, some j => match j.zero with
    | some z => if z.cells.toList.length = j.size then some ⟨kindOf P t d, j.size, j.bytes, z.cells.toList⟩ else none
    | none => none
  | _, _ => none
theorem tyOf_ok (P : Program) : ∀ t i, tyOf P t = some i → TyOK P t i := by
  intro t i h
  unfold tyOf at h
  split at h
  · rename_i d j hd hj
    split at h
    · rename_i z hz
      split at h
      · rename_i hl
        obtain rfl := Option.some.inj h
        refine ⟨?_, hl, j, z, hj, rfl, rfl, hz, rfl⟩
        cases d with
        | struct fa =>
          refine ⟨fa, hd, rfl, fun e => ?_⟩
          simp only [Bool.and_eq_true, Bool.not_eq_true'] at e
          exact ⟨e.1.1, e.1.2, e.2⟩
        | slice e => exact hd
        | array n e => exact hd
        | _ => exact ⟨hd, (fun _ e => by cases e), (fun _ _ e => by cases e)⟩
      · cases h
    · cases h
  · cases h
section
variable {P : Program} {T : Ty}
def seqQ (K : St → Prop) (Q : AE → St → Prop) : AE → St → Prop
  | .normal, σ => K σ
  | .exit i, σ => Q (.exit i) σ
  | .ret, σ => Q .ret σ
def blockQ (id : Nat) (Q : AE → St → Prop) : AE → St → Prop
  | .normal, σ => Q .normal σ
  | .exit i, σ => if i = id then Q .normal σ else Q (.exit i) σ
  | .ret, σ => Q .ret σ
def loopQ (ks : List Nat) (I : Nat → St → Prop) (n : Nat) (Q : AE → St → Prop) : AE → St → Prop
  | .normal, σ => ∃ m js, m < n ∧ σ.good js ∧ I m (σ.keep ks js)
  | .exit i, σ => Q (.exit i) σ
  | .ret, σ => Q .ret σ
/-- The end of a function: some own blocks go with it. -/
theorem ax {Q : A → List B → Prop} {σ : St} {r : A} (js : List Nat) (h : Q (mapA (subL σ.bx (pos (σ.ids js))) r) ((σ.ids js).map fun i => mapB (subL σ.bx (pos (σ.ids js))) (σ.bx.getD i .hid))) (hg : σ.good js := by simp [St.good, St.ids, upto]) : aexit Q σ r := ⟨js, _, _, hg, .refl _, leBs.refl _, h⟩
/-- The same, told with less. -/
theorem aw {Q : A → List B → Prop} {σ : St} {r : A} (js : List Nat) (r' : A) (bx' : List B) (h1 : leA (mapA (subL σ.bx (pos (σ.ids js))) r) r') (h2 : leBs ((σ.ids js).map fun i => mapB (subL σ.bx (pos (σ.ids js))) (σ.bx.getD i .hid)) bx') (h : Q r' bx') (hg : σ.good js := by simp [St.good, St.ids, upto]) : aexit Q σ r := ⟨js, r', bx', hg, h1, h2, h⟩
/-- What is left to walk. -/
structure Nx (P : Program) (T : Ty) (b : Code) (Q : AE → St → Prop) (K : St → Prop) : Prop where
  go : ∀ σ, awp P T b Q σ → K σ
  cut : ∀ σ ks js, σ.good js → awp P T b Q (σ.keep ks js) → K σ
/-- The end of a function. -/
structure Fn (T : Ty) (rs : List ResultVar) (Q : A → List B → Prop) (Q0 : AE → St → Prop) : Prop where
  ret : ∀ σ, afin T rs Q σ → Q0 .ret σ
  fall : ∀ σ, afin T rs Q σ → Q0 .normal σ
variable {Q : AE → St → Prop} {σ : St}
theorem sq {a b : Code} (h : ∀ K : St → Prop, Nx P T b Q K → awp P T a (seqQ K Q) σ) : awp P T (.seq a b) Q σ := by
  have h := h (fun σ' => awp P T b Q σ' ∨ ∃ ks js, σ'.good js ∧ awp P T b Q (σ'.keep ks js)) ⟨fun _ h => .inl h, fun _ ks m hg h => .inr ⟨ks, m, hg, h⟩⟩
  have e : seqQ (fun σ' => awp P T b Q σ' ∨ ∃ ks js, σ'.good js ∧ awp P T b Q (σ'.keep ks js)) Q = fun e σ' => match e with | .normal => awp P T b Q σ' ∨ ∃ ks js, σ'.good js ∧ awp P T b Q (σ'.keep ks js) | e => Q e σ' := by
    funext e σ'
    cases e <;> rfl
  rw [e] at h
  exact h
theorem bl {id : Nat} {c : Code} (h : awp P T c (blockQ id Q) σ) : awp P T (.block id c) Q σ := by
  have e : blockQ id Q = fun e σ' => match e with | .exit i => if i = id then Q .normal σ' else Q (.exit i) σ' | e => Q e σ' := by
    funext e σ'
    cases e <;> rfl
  rw [e] at h
  exact h
/-- A round of a loop, the rest held aside. -/
structure Lp (ks : List Nat) (I : Nat → St → Prop) (n : Nat) (Q Q1 : AE → St → Prop) : Prop where
  go : ∀ σ m js, m < n → σ.good js → I m (σ.keep ks js) → Q1 .normal σ
  ex : ∀ i σ, Q (.exit i) σ → Q1 (.exit i) σ
  rt : ∀ σ, Q .ret σ → Q1 .ret σ
theorem lp {c : Code} (ks js : List Nat) (I : Nat → St → Prop) (n : Nat) (h0 : I n (σ.keep ks js)) (h : ∀ n σ', I n σ' → ∀ Q1, Lp ks I n Q Q1 → awp P T c Q1 σ') (hg : σ.good js := by simp [St.good, St.ids, upto]) : awp P T (.loop c) Q σ := by
  refine ⟨ks, js, I, n, hg, h0, fun n σ' hI => ?_⟩
  have h := h n σ' hI (loopQ ks I n Q) ⟨fun σ m js h1 h2 h3 => ⟨m, js, h1, h2, h3⟩, fun _ _ h => h, fun _ h => h⟩
  have e : loopQ ks I n Q = fun e s => match e with | .normal => ∃ m js', m < n ∧ s.good js' ∧ I m (s.keep ks js') | e => Q e s := by
    funext e σ'
    cases e <;> rfl
  rw [e] at h
  exact h
/-- The next round. -/
theorem ln {ks : List Nat} {I : Nat → St → Prop} {n : Nat} {Q1 : AE → St → Prop} (m : Nat) (js : List Nat) (hm : m < n) (h : I m (σ.keep ks js)) (hl : Lp ks I n Q Q1 := by assumption) (hg : σ.good js := by simp [St.good, St.ids, upto]) : Q1 .normal σ := hl.go σ m js hm hg h
theorem lx {ks : List Nat} {I : Nat → St → Prop} {n i : Nat} {Q1 : AE → St → Prop} (hl : Lp ks I n Q Q1 := by assumption) (g : Q (.exit i) σ) : Q1 (.exit i) σ := hl.ex i σ g
theorem lr {ks : List Nat} {I : Nat → St → Prop} {n : Nat} {Q1 : AE → St → Prop} (hl : Lp ks I n Q Q1 := by assumption) (g : Q .ret σ) : Q1 .ret σ := hl.rt σ g
theorem rg {id : Nat} {ops : Array Oper} (h : aops P T ops ops.toList σ (Q .normal)) : awp P T (.region id ops false) Q σ := h
theorem dr {id : Nat} {ops : Array Oper} (p : List Sp) (D : List Nat) (h : aplan P T ops D p .same σ (Q .normal)) (hp : planB ops p = true := by kernel_rfl) (hD : (D.all fun i => notHid σ.bx[i]?) = true := by rfl) : awp P T (.region id ops true) Q σ := ⟨p, D, hp, hD, h⟩
theorem cdd {c : Operand} {x y : Code} (h : acond (strip (σ.ev c)) (awp P T x Q σ) (awp P T y Q σ)) : awp P T (.cond c x y) Q σ := h
theorem sk (h : Q .normal σ) : awp P T .skip Q σ := h
theorem xt {id : Nat} (h : Q (.exit id) σ) : awp P T (.exit id) Q σ := h
theorem rt (h : Q .ret σ) : awp P T .ret Q σ := h
theorem sc {c : Code} (h : awp P T c Q σ) : awp P T (.scope c) Q σ := h
theorem nx {b : Code} {K : St → Prop} (g : awp P T b Q σ) (h : Nx P T b Q K := by assumption) : K σ := h.go σ g
/-- Where ways join: some registers and own blocks alone go on. -/
theorem kp {b : Code} {K : St → Prop} (ks js : List Nat) (g : awp P T b Q (σ.keep ks js)) (h : Nx P T b Q K := by assumption) (hg : σ.good js := by simp [St.good, St.ids, upto]) : K σ := h.cut σ ks js hg g
theorem f1 {x : ResultVar} {R : A → List B → Prop} {Q0 : AE → St → Prop} (h : Fn T [x] R Q0 := by assumption) (g : (resA T σ x).1 ∧ aexit R σ (resA T σ x).2) : Q0 .ret σ := h.ret σ g
theorem f2 {x y : ResultVar} {R : A → List B → Prop} {Q0 : AE → St → Prop} (h : Fn T [x, y] R Q0 := by assumption) (g : (resA T σ x).1 ∧ (resA T σ y).1 ∧ ∃ p q, toPair (resA T σ x).2 = some p ∧ toPair (resA T σ y).2 = some q ∧ aexit R σ (.tup [p, q])) : Q0 .ret σ := by
  obtain ⟨h1, h2, p, q, h3, h4, h5⟩ := g
  refine h.ret σ ⟨fun z hz => ?_, ?_⟩
  · rcases List.mem_cons.1 hz with rfl | hz
    · exact h1
    · rw [List.mem_singleton] at hz; subst hz; exact h2
  · simp only [List.mapM_cons, List.mapM_nil, h3, h4, Option.pure_def, Option.bind_eq_bind, Option.bind_some]
    exact h5
theorem f3 {x y z : ResultVar} {R : A → List B → Prop} {Q0 : AE → St → Prop} (h : Fn T [x, y, z] R Q0 := by assumption) (g : (resA T σ x).1 ∧ (resA T σ y).1 ∧ (resA T σ z).1 ∧ ∃ p q r, toPair (resA T σ x).2 = some p ∧ toPair (resA T σ y).2 = some q ∧ toPair (resA T σ z).2 = some r ∧ aexit R σ (.tup [p, q, r])) : Q0 .ret σ := by
  obtain ⟨h1, h2, h6, p, q, r, h3, h4, h7, h5⟩ := g
  refine h.ret σ ⟨fun u hu => ?_, ?_⟩
  · rcases List.mem_cons.1 hu with rfl | hu
    · exact h1
    · rcases List.mem_cons.1 hu with rfl | hu
      · exact h2
      · rw [List.mem_singleton] at hu; subst hu; exact h6
  · simp only [List.mapM_cons, List.mapM_nil, h3, h4, h7, Option.pure_def, Option.bind_eq_bind, Option.bind_some]
    exact h5
theorem enter (hmx : P.follows .mixedOrders = true) {f : FuncId} {fn : Func} {c : Code} {n : Nat} {rs : List ResultVar} {args : List A} {bx0 : List B} {R : A → List B → Prop} (hf : P.funcs[f]? = some fn) (hnt : fn.ntmps = n)
    (h : ∀ Q0, Fn (tyOf P) rs R Q0 → awp P (tyOf P) c Q0 (start n args bx0)) (hn : (fn.name == "runtime.NumGoroutine") = false := by kernel_rfl) (hb : fn.body = some c := by rfl) (hrs : fn.results.toList = rs := by rfl) : PC P f args bx0 R := by
  subst hnt hrs
  refine PC_enter (tyOf_ok P) hmx hf hn hb ?_
  exact h _ ⟨fun _ h => h, fun _ h => h⟩
end
end Go.Proofs.YtdedmhmomoejkaaDoor.V
