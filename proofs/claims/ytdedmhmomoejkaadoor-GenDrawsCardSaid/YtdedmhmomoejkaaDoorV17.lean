import Derived.Test.YtdedmhmomoejkaaDoorV16
namespace Go.Proofs.YtdedmhmomoejkaaDoor.V
open Go Go.RowKit Go.Proofs.YtdedmhmomoejkaaDoorW.PrintLast
set_option linter.unusedVariables false
set_option linter.unusedSimpArgs false
section
variable {P : Program} {T : Ty} {ok0 : Nat → Prop} {μ0 : List Nat} {w0 : World}
/-- It tells less. -/
inductive leC : C → C → Prop where
  | refl (x : C) : leC x x
  | any (x : C) : leC x .any
  | nil (sz : Nat) (f : Nat → Nat → C) : leC (.v (.slice none 0 0)) (.sl 0 sz f)
  | row (n sz : Nat) (f g : Nat → Nat → C) (h : ∀ i, i < n → ∀ j, j < sz → leC (f i j) (g i j)) : leC (.sl n sz f) (.sl n sz g)
inductive leL : L → L → Prop where
  | refl (l : L) : leL l l
  | c (x y : C) (h : leC x y) : leL (.c x) (.c y)
  | junk (l : L) : leL l .junk
inductive leLs : List L → List L → Prop where
  | nil : leLs [] []
  | cons {l l' : L} {r r' : List L} (h : leL l l') (hr : leLs r r') : leLs (l :: r) (l' :: r')
inductive leA : A → A → Prop where
  | refl (a : A) : leA a a
  | one {l l' : L} (h : leL l l') : leA (.one l) (.one l')
  | agg {ls ls' : List L} (h : leLs ls ls') : leA (.agg ls) (.agg ls')
  | tup2 {x y x' y' : List L} {p q : Bool} (h : leLs x x') (h2 : leLs y y') : leA (.tup [(x, p), (y, q)]) (.tup [(x', p), (y', q)])
  | tup3 {x y z x' y' z' : List L} {p q r : Bool} (h : leLs x x') (h2 : leLs y y') (h3 : leLs z z') : leA (.tup [(x, p), (y, q), (z, r)]) (.tup [(x', p), (y', q), (z', r)])
inductive leB : B → B → Prop where
  | refl (b : B) : leB b b
  | var {ls ls' : List L} (t : TypeId) (h : leLs ls ls') : leB (.var ls t) (.var ls' t)
  | arr {es es' : List (List L)} (sz : Nat) (t : TypeId) (hl : es.length = es'.length) (h : ∀ (i : Nat) e e', es[i]? = some e → es'[i]? = some e' → leLs e e') : leB (.arr es sz t) (.arr es' sz t)
  | hid (b : B) : leB b .hid
inductive leBs : List B → List B → Prop where
  | nil : leBs [] []
  | cons {b b' : B} {r r' : List B} (h : leB b b') (hr : leBs r r') : leBs (b :: r) (b' :: r')
theorem leLs.refl : ∀ ls, leLs ls ls
  | [] => .nil
  | l :: r => .cons (.refl l) (leLs.refl r)
theorem leBs.refl : ∀ bs, leBs bs bs
  | [] => .nil
  | b :: r => .cons (.refl b) (leBs.refl r)
section
variable {μ : List Nat} {ok : Nat → Prop} {w : World}
theorem RC_le {x y : C} (h : leC x y) : ∀ {u : Value}, RC ok w x u → RC ok w y u := by
  induction h with
  | refl x => exact fun h => h
  | any x => exact fun _ => trivial
  | nil sz f =>
    intro u h
    have e : u = .slice none 0 0 := h
    exact ⟨none, 0, e, ⟨Nat.le_refl _, by omega⟩, fun i hi => by omega⟩
  | row n sz f g h ih =>
    intro u hu
    obtain ⟨a, cap, h1, h2, h3⟩ := hu
    refine ⟨a, cap, h1, h2, fun i hi j hj => ?_⟩
    obtain ⟨b, v, h4, h5, h6, h7⟩ := h3 i hi j hj
    exact ⟨b, v, h4, h5, h6, ih i hi j hj h7⟩
theorem RL_le {l l' : L} (h : leL l l') {u : Value} (hu : RL μ ok w l u) : RL μ ok w l' u := by
  cases h with
  | refl => exact hu
  | c x y h => exact RC_le h hu
  | junk => trivial
theorem RLs_le {ls ls' : List L} (h : leLs ls ls') : ∀ {cs : List Value}, RLs (RL μ ok w) ls cs → RLs (RL μ ok w) ls' cs := by
  induction h with
  | nil => exact fun h => h
  | cons h hr ih =>
    intro cs hc
    cases cs with
    | nil => have := hc.1; simp at this
    | cons c cs =>
      have h1 : RLs (RL μ ok w) _ cs := ⟨by have := hc.1; simpa using this, fun j l hj => hc.2 (j + 1) l hj⟩
      have h2 := ih h1
      refine ⟨by simp [h2.1], fun j l hj => ?_⟩
      cases j with
      | zero =>
        obtain ⟨v, h3, h4⟩ := hc.2 0 _ rfl
        obtain rfl := Option.some.inj hj
        exact ⟨v, h3, RL_le h h4⟩
      | succ j => exact h2.2 j l hj
theorem RV_le {ls ls' : List L} {p : Bool} (h : leLs ls ls') {u : Value} (hu : RV (RL μ ok w) (ls, p) u) : RV (RL μ ok w) (ls', p) u := by
  refine ⟨fun hp => ?_, fun hp => ?_⟩
  · obtain ⟨cs, h1, h2⟩ := hu.1 hp
    exact ⟨cs, h1, RLs_le h h2⟩
  · obtain ⟨l, h1, h2⟩ := hu.2 hp
    have h1 : ls = [l] := h1
    subst h1
    cases h with
    | cons h hr => cases hr with
      | nil => exact ⟨_, rfl, RL_le h h2⟩
theorem RA_le {a a' : A} (h : leA a a') {u : Value} (hu : RA (RL μ ok w) a u) : RA (RL μ ok w) a' u := by
  cases h with
  | refl => exact hu
  | one h => exact RL_le h hu
  | agg h =>
    obtain ⟨cs, h1, h2⟩ := hu
    exact ⟨cs, h1, RLs_le h h2⟩
  | tup2 h h2 =>
    obtain ⟨vs, h3, h4, h5⟩ := hu
    refine ⟨vs, h3, h4, fun j x hj => ?_⟩
    match j, hj with
    | 0, hj => obtain rfl := Option.some.inj hj
               obtain ⟨v, h6, h7⟩ := h5 0 _ rfl
               exact ⟨v, h6, RV_le h h7⟩
    | 1, hj => obtain rfl := Option.some.inj hj
               obtain ⟨v, h6, h7⟩ := h5 1 _ rfl
               exact ⟨v, h6, RV_le h2 h7⟩
    | j + 2, hj => simp at hj
  | tup3 h h2 h3' =>
    obtain ⟨vs, h3, h4, h5⟩ := hu
    refine ⟨vs, h3, h4, fun j x hj => ?_⟩
    match j, hj with
    | 0, hj => obtain rfl := Option.some.inj hj
               obtain ⟨v, h6, h7⟩ := h5 0 _ rfl
               exact ⟨v, h6, RV_le h h7⟩
    | 1, hj => obtain rfl := Option.some.inj hj
               obtain ⟨v, h6, h7⟩ := h5 1 _ rfl
               exact ⟨v, h6, RV_le h2 h7⟩
    | 2, hj => obtain rfl := Option.some.inj hj
               obtain ⟨v, h6, h7⟩ := h5 2 _ rfl
               exact ⟨v, h6, RV_le h3' h7⟩
    | j + 3, hj => simp at hj
theorem leLs.len {ls ls' : List L} (h : leLs ls ls') : ls.length = ls'.length := by
  induction h with
  | nil => rfl
  | cons _ _ ih => simp [ih]
theorem leLs.at_ {ls ls' : List L} (h : leLs ls ls') : ∀ (j : Nat) l', ls'[j]? = some l' → ∃ l, ls[j]? = some l ∧ leL l l' := by
  induction h with
  | nil => intro j l h; simp at h
  | cons h hr ih =>
    intro j l' hj
    cases j with
    | zero => obtain rfl := Option.some.inj hj
              exact ⟨_, rfl, h⟩
    | succ j => exact ih j l' hj
theorem BoxR_le {g : Nat} {b b' : B} (h : leB b b') (hb : BoxR μ ok w g b) : BoxR μ ok w g b' := by
  cases h with
  | refl => exact hb
  | var t h =>
    obtain ⟨cs, h1, h2⟩ := hb
    exact ⟨cs, h1, RLs_le h h2⟩
  | arr sz t hl h =>
    obtain ⟨cs, cap, h1, h2, h3, h4, h5⟩ := hb
    refine ⟨cs, cap, h1, h2, by omega, h4, fun i e' he' => ?_⟩
    have hi := at_in he'
    rw [← hl] at hi
    have he := List.getElem?_eq_getElem hi
    have hle := h i _ e' he he'
    obtain ⟨h6, h7⟩ := h5 i _ he
    refine ⟨by rw [← hle.len]; exact h6, fun j x hx => ?_⟩
    obtain ⟨l, h8, h9⟩ := hle.at_ j x hx
    obtain ⟨v, h10, h11⟩ := h7 j l h8
    exact ⟨v, h10, RL_le h9 h11⟩
  | hid => trivial
theorem leBs.len {bs bs' : List B} (h : leBs bs bs') : bs.length = bs'.length := by
  induction h with
  | nil => rfl
  | cons _ _ ih => simp [ih]
theorem leBs.at_ {bs bs' : List B} (h : leBs bs bs') : ∀ (j : Nat) b', bs'[j]? = some b' → ∃ b, bs[j]? = some b ∧ leB b b' := by
  induction h with
  | nil => intro j l h; simp at h
  | cons h hr ih =>
    intro j l' hj
    cases j with
    | zero => obtain rfl := Option.some.inj hj
              exact ⟨_, rfl, h⟩
    | succ j => exact ih j l' hj
theorem leB.hid' {b b' : B} (h : leB b b') (hb : b' ≠ .hid) : b ≠ .hid := by
  cases h with
  | refl => exact hb
  | var t h => simp
  | arr sz t hl h => simp
  | hid => exact absurd rfl hb
theorem Mem_le {bx bx' : List B} (h : leBs bx bx') (hm : Mem μ ok bx w) : Mem μ ok bx' w := by
  refine ⟨by rw [hm.len]; exact h.len, ?_, ?_, hm.there, hm.small, ?_⟩
  · intro i j b b' g h1 h2 hn1 hn2 h3 h4
    obtain ⟨b1, h5, h6⟩ := h.at_ i b h1
    obtain ⟨b2, h7, h8⟩ := h.at_ j b' h2
    exact hm.nd i j b1 b2 g h5 h7 (h6.hid' hn1) (h8.hid' hn2) h3 h4
  · intro i b g h1 h2 hn
    obtain ⟨b1, h5, h6⟩ := h.at_ i b h1
    exact hm.live i b1 g h5 h2 (h6.hid' hn)
  · intro i b g h1 h2
    obtain ⟨b1, h5, h6⟩ := h.at_ i b h1
    exact BoxR_le h6 (hm.box i b1 g h5 h2)
end
/-- A contract, used where more is known of what is handed over. -/
theorem PC.args {P : Program} {f : FuncId} {args args' : List A} {bx0 bx0' : List B} {Q : A → List B → Prop} (h : PC P f args' bx0' Q) (hl : args.length = args'.length) (ha : ∀ (j : Nat) a a', args[j]? = some a → args'[j]? = some a' → leA a a') (hb : leBs bx0 bx0') (hh : ∀ b, b ∈ bx0' → b ≠ .hid) : PC P f args bx0 Q := by
  refine ⟨h.1, fun ok μ0 w cargs h0 h1 h2 h3 => h.2 ok μ0 w cargs hh (Mem_le hb h1) (by omega) (fun j a' hj => ?_)⟩
  have hjl := at_in hj
  obtain ⟨v, h4, h5⟩ := h3 j _ (List.getElem?_eq_getElem (by omega))
  exact ⟨v, h4, RA_le (ha j _ a' (List.getElem?_eq_getElem (by omega)) hj) h5⟩
theorem PC.weak {P : Program} {f : FuncId} {args : List A} {bx0 : List B} {Q Q' : A → List B → Prop} (h : PC P f args bx0 Q) (hq : ∀ r bx, Q r bx → ∃ r' bx', leA r r' ∧ leBs bx bx' ∧ Q' r' bx') : PC P f args bx0 Q' :=
  ⟨h.1, fun ok μ0 w cargs h0 h1 h2 h3 => (h.2 ok μ0 w cargs h0 h1 h2 h3).mono fun e w' ⟨cv, r, bx, ν, ok', he, hQ, h4, h5, rest⟩ =>
    let ⟨r', bx', h6, h7, h8⟩ := hq r bx hQ
    ⟨cv, r', bx', ν, ok', he, h8, RA_le h6 h4, Mem_le h7 h5, rest⟩⟩
/-- What a result is. -/
def resA (T : Ty) (σ : St) : ResultVar → Prop × A
  | .tmp t => ((strip (lk σ.tm t)).1 = true, (strip (lk σ.tm t)).2)
  | .cell a t => pLoad T σ.bx t (strip (lk σ.tm a))
def toPair : A → Option (List L × Bool)
  | .one l => some ([l], false)
  | .agg ls => some (ls, true)
  | _ => none
/-- What is returned: the lent blocks, and some own ones with it; all else is never written again. -/
def aexit (Q : A → List B → Prop) (σ : St) (r : A) : Prop :=
  ∃ (js : List Nat) (r' : A) (bx' : List B), σ.good js ∧ leA (mapA (subL σ.bx (pos (σ.ids js))) r) r' ∧ leBs ((σ.ids js).map fun i => mapB (subL σ.bx (pos (σ.ids js))) (σ.bx.getD i .hid)) bx' ∧ Q r' bx'
def afin (T : Ty) (rs : List ResultVar) (Q : A → List B → Prop) (σ : St) : Prop :=
  match rs with
  | [x] => (resA T σ x).1 ∧ aexit Q σ (resA T σ x).2
  | rs => (∀ x, x ∈ rs → (resA T σ x).1) ∧ match rs.mapM fun x => toPair (resA T σ x).2 with
    | some xs => aexit Q σ (.tup xs)
    | none => False
def numb : Nat → List A → List (Nat × A)
  | _, [] => []
  | n, a :: r => (n, a) :: numb (n + 1) r
def start (n : Nat) (args : List A) (bx0 : List B) : St := { nt := args.length + (n - args.length), m := bx0.length, tm := numb 0 args, bx := bx0 }
theorem numb_at : ∀ (args : List A) (k t : Nat), lk (numb k args) (k + t) = args.getD t (.one .junk)
  | [], _, _ => rfl
  | a :: r, k, 0 => by simp [numb, lk]
  | a :: r, k, t + 1 => by
    have := numb_at r (k + 1) t
    rw [show k + 1 + t = k + (t + 1) by omega] at this
    simp only [numb, lk]
    rw [if_neg (by omega), this]
    rfl
theorem exit_ok {ν : List Nat} {ok : Nat → Prop} {σ : St} {a : Act} {w : World} {r : A} {v : Value} {Q : A → List B → Prop} (hm : σ.m = μ0.length) (hR : Rl (μ0 ++ ν) ok σ a w) (hO : Out ok0 μ0 w0 ν ok w) (hr : RA (RL (μ0 ++ ν) ok w) r v) (he : aexit Q σ r) :
    ∃ r' bx' ν' ok', Q r' bx' ∧ RA (RL (μ0 ++ ν') ok' w) r' v ∧ Mem (μ0 ++ ν') ok' bx' w ∧ Out ok0 μ0 w0 ν' ok' w := by
  obtain ⟨js, r', bx', hg, hle, hlb, hQ⟩ := he
  have hp := ids_prefix (ν := ν) (js := js) hm
  have h1 := Mem_keep hR.mem (good_lt hm hR hg) hg.1
  rw [hp] at h1
  refine ⟨r', bx', _, _, hQ, RA_le hle ?_, Mem_le hlb h1, hO.keep hm hR hg⟩
  rw [← hp]
  exact RA_map r v (fun l _ u hl => RL_pick hR.mem _ hl) hr
theorem pLoad_ptr {μ : List Nat} {ok : Nat → Prop} {w : World} {bx : List B} {t : TypeId} {x : Bool × A} {u : Value} (hx : SR (RL μ ok w) x u) (h : (pLoad T bx t x).1) : ∃ b, u = .pointer (some b) := by
  unfold pLoad at h
  split at h
  · split at h
    · obtain ⟨b, hg, hu⟩ := hx h.1
      exact ⟨_, hu⟩
    · exact h.elim
  · split at h
    · obtain ⟨b, hg, hu⟩ := hx h.1
      exact ⟨_, hu⟩
    · exact h.elim
  · obtain ⟨b, hu, _⟩ := hx h.1
    exact ⟨_, hu⟩
  · exact h.elim
def resS (tmps : Array Value) : ResultVar → Sem Value
  | .tmp t => pure (tmps.getD t undef)
  | .cell a t => do loadVar t (← asAddr (tmps.getD a undef))
theorem res_ok (hT : ∀ t i, T t = some i → TyOK P t i) {μ : List Nat} {ok : Nat → Prop} {σ : St} {a : Act} {w : World} (hR : Rl μ ok σ a w) (x : ResultVar) (h : (resA T σ x).1) :
    ∃ v, (resS a.tmps x).run P w = .ok v w ∧ RA (RL μ ok w) (resA T σ x).2 v := by
  cases x with
  | tmp t => exact ⟨_, rfl, RA_strip _ _ (hR.tm t) h⟩
  | cell b t =>
    have hx := SR.of (hR.tm b)
    obtain ⟨v, h1, h2⟩ := pLoad_ok hT hR.mem hx h
    obtain ⟨c, hc⟩ := pLoad_ptr hx h
    refine ⟨v, ?_, h2⟩
    have h1 := h1 w (Ag.refl _ _ _ _)
    rw [hc] at h1
    simp only [resS, hc]
    simpa [Instr.loadAt, Instr.sureAddr, asAddr] using h1
theorem ress_ok (hT : ∀ t i, T t = some i → TyOK P t i) {μ : List Nat} {ok : Nat → Prop} {σ : St} {a : Act} {w : World} (hR : Rl μ ok σ a w) : ∀ (rs : List ResultVar), (∀ x, x ∈ rs → (resA T σ x).1) →
    ∃ vs : List Value, (rs.mapM (resS a.tmps)).run P w = .ok vs w ∧ rs.length = vs.length ∧ ∀ (j : Nat) x, rs[j]? = some x → ∃ v, vs[j]? = some v ∧ RA (RL μ ok w) (resA T σ x).2 v
  | [], _ => ⟨[], rfl, rfl, fun j x h => by simp at h⟩
  | x :: r, h => by
    obtain ⟨v, h1, h2⟩ := res_ok hT hR x (h x (List.mem_cons_self))
    obtain ⟨vs, h3, h4, h5⟩ := ress_ok hT hR r (fun y hy => h y (List.mem_cons_of_mem _ hy))
    refine ⟨v :: vs, by simp [List.mapM_cons, h1, h3], by simp [h4], fun j y hj => ?_⟩
    cases j with
    | zero => obtain rfl : x = y := by simpa using hj
              exact ⟨v, rfl, h2⟩
    | succ j => exact h5 j y hj
theorem run_results {fn : Func} {tmps : Array Value} {w : World} {vs : List Value} (h : (fn.results.toList.mapM (resS tmps)).run P w = .ok vs w) : (results fn tmps).run P w = .ok (if h : vs.length = 1 then vs[0] else .tuple vs.toArray) w := by
  have e : results fn tmps = (do let vs ← fn.results.mapM (resS tmps); pure (if h : vs.size = 1 then vs[0] else .tuple vs)) := by
    unfold results
    congr 1
  rw [e, Array.mapM_eq_mapM_toList]
  simp [h]
theorem fin_ok (hT : ∀ t i, T t = some i → TyOK P t i) {μ : List Nat} {ok : Nat → Prop} {σ : St} {a : Act} {w : World} {fn : Func} {Q : A → List B → Prop} (hR : Rl μ ok σ a w) (h : afin T fn.results.toList Q σ) :
    ∃ v r, (results fn a.tmps).run P w = .ok v w ∧ RA (RL μ ok w) r v ∧ aexit Q σ r := by
  unfold afin at h
  split at h
  · rename_i x hx
    obtain ⟨vs, h1, h2, h3⟩ := ress_ok (P := P) hT hR fn.results.toList (fun y hy => by rw [hx, List.mem_singleton] at hy; subst hy; exact h.1)
    obtain ⟨v, h4, h5⟩ := h3 0 x (by rw [hx]; rfl)
    have hl : vs.length = 1 := by rw [← h2, hx]; rfl
    refine ⟨v, _, ?_, h5, h.2⟩
    rw [run_results h1, dif_pos hl]
    congr 1
    rw [List.getElem?_eq_getElem (by omega)] at h4
    simpa using h4
  · rename_i hne
    obtain ⟨hp, h⟩ := h
    split at h
    · rename_i xs hxs
      obtain ⟨vs, h1, h2, h3⟩ := ress_ok (P := P) hT hR fn.results.toList hp
      obtain ⟨h4, h5⟩ := mapM_at hxs
      have hl : vs.length ≠ 1 := by
        rw [← h2]
        intro e
        obtain ⟨y, hy⟩ := List.length_eq_one_iff.1 e
        exact hne y hy
      refine ⟨.tuple vs.toArray, .tup xs, by rw [run_results h1, dif_neg hl], ⟨vs.toArray, rfl, by rw [← h4, h2]; simp, fun j x hx => ?_⟩, h⟩
      obtain ⟨y, hy, hf⟩ := h5 j x hx
      obtain ⟨v, hv, hra⟩ := h3 j y hy
      refine ⟨v, by simpa using hv, ?_⟩
      unfold toPair at hf
      split at hf
      · rename_i l hl
        rw [hl] at hra
        obtain rfl := Option.some.inj hf
        exact ⟨(fun e => by cases e), (fun _ => ⟨l, rfl, hra⟩)⟩
      · rename_i ls hl
        rw [hl] at hra
        obtain rfl := Option.some.inj hf
        exact ⟨(fun _ => hra), (fun e => by cases e)⟩
      · cases hf
    · exact h.elim
/-- A function's contract, out of the second reading of its body. -/
theorem PC_enter (hT : ∀ t i, T t = some i → TyOK P t i) (hmx : P.follows .mixedOrders = true) {f : FuncId} {fn : Func} {c : Code} {args : List A} {bx0 : List B} {Q : A → List B → Prop} (hf : P.funcs[f]? = some fn) (hn : (fn.name == "runtime.NumGoroutine") = false) (hb : fn.body = some c)
    (h : awp P T c (fun e σ => match e with | .exit _ => False | _ => afin T fn.results.toList Q σ) (start fn.ntmps args bx0)) : PC P f args bx0 Q := by
  refine ⟨⟨fn, hf, hn, by rw [hb]; rfl⟩, fun ok μ0 w cargs hnh hmem hlen hargs => ?_⟩
  refine calls_of_wp hf hb ?_
  have h0 : Rel ok μ0 w (start fn.ntmps args bx0) { tmps := cargs ++ Array.replicate (fn.ntmps - cargs.size) undef, defers := [] } w := by
    refine ⟨[], ok, hmem.len.symm, ⟨by rw [List.append_nil]; exact hmem, by simp [start, hlen], fun t => ?_, rfl⟩, Fw.refl _ _, fun _ h => h, fun _ h => .inl h, fun g hg => by simp at hg⟩
    rw [List.append_nil]
    have := numb_at args 0 t
    rw [Nat.zero_add] at this
    show RA _ (lk (numb 0 args) t) _
    rw [this]
    by_cases ht : t < args.length
    · obtain ⟨v, h1, h2⟩ := hargs t _ (List.getElem?_eq_getElem ht)
      have e : (cargs ++ Array.replicate (fn.ntmps - cargs.size) undef).getD t undef = v := by
        rw [Array.getD_eq_getD_getElem?, Array.getElem?_append_left (by omega), h1]; rfl
      rw [e, List.getD_eq_getElem?_getD, List.getElem?_eq_getElem ht]
      exact h2
    · rw [List.getD_eq_getElem?_getD, List.getElem?_eq_none (by omega)]
      trivial
  have hend : ∀ σ a w', Rel ok μ0 w σ a w' → afin T fn.results.toList Q σ → a.defers = [] ∧ ∃ v, (results fn a.tmps).run P w' = .ok v w' ∧
      ∃ cv r bx ν ok', Ending.returned v = .returned cv ∧ Q r bx ∧ RA (RL (μ0 ++ ν) ok' w') r cv ∧ Mem (μ0 ++ ν) ok' bx w' ∧ (∀ g, g ∈ ν → w.heap.size ≤ g ∨ g ∈ μ0) ∧ Fw μ0 w w' ∧ (∀ k, ok k → ok' k) ∧ (∀ k, ok' k → ok k ∨ w.heap.size ≤ k ∨ k ∈ μ0) := by
    intro σ a w' ⟨ν, ok1, hm, hR, hO⟩ hfin
    obtain ⟨v, r, h1, h2, h3⟩ := fin_ok hT hR hfin
    obtain ⟨r', bx', ν', ok', h4, h5, h6, hO'⟩ := exit_ok hm hR hO h2 h3
    exact ⟨hR.df, v, h1, v, r', bx', ν', ok', rfl, h4, h5, h6, hO'.new, hO'.fw, hO'.ok1, hO'.ok2⟩
  refine awp_ok hT hmx c _ _ _ _ _ h0 h (fun e σ a w' h1 h2 => ?_) ?_
  · cases e with
    | normal => exact hend σ a w' h1 h2
    | ret => exact hend σ a w' h1 h2
    | exit i => exact h2.elim
  · intro c a d v w' h1
    obtain ⟨h2, h3⟩ := h1
    cases d <;> exact ⟨h2, h3⟩
end
end Go.Proofs.YtdedmhmomoejkaaDoor.V
