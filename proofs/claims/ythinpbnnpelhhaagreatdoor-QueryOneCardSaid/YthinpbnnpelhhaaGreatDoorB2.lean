import Derived.Test.YthinpbnnpelhhaaGreatDoorB1
import Derived.Test.YthinpbnnpelhhaaGreatDoorW6
namespace Go.Proofs.YthinpbnnpelhhaaGreatDoor.V
open Go Go.RowKit Go.Proofs.YthinpbnnpelhhaaGreatDoorW.PrintLast
open Go.Proofs
set_option linter.unusedVariables false
set_option linter.unusedSimpArgs false
attribute [local irreducible] awp
set_option maxRecDepth 100000
/-- A contract out of a walk: one struct in, of whose cells is known what the content tells. -/
theorem PC_agg {P : Program} {f : FuncId} {fn : Func} {ls : List L} {Q : A → List B → Prop} (hf : P.funcs[f]? = some fn) (h : ∀ (ok : Nat → Prop) (w : World) (cs : Array Value), RLs (RL [] ok w) ls cs.toList → Calls P f #[.agg cs] w fun e w' => ∃ v r, e = .returned v ∧ Below w.heap.size w w' ∧ Q r [] ∧ ∀ ok, RA (RL [] ok w') r v)
    (hn : (fn.name == "runtime.NumGoroutine") = false := by kernel_rfl) (hb : fn.body.isSome = true := by kernel_rfl) : PC P f [.agg ls] [] Q := by
  refine ⟨⟨fn, hf, hn, hb⟩, fun ok μ0 w cargs _ hm hl ha => ?_⟩
  have hμ : μ0 = [] := List.eq_nil_of_length_eq_zero hm.len
  subst hμ
  obtain ⟨u, h1, h2⟩ := ha 0 _ rfl
  have hc : cargs = #[u] := by
    apply Array.ext
    · rw [← hl]; rfl
    · intro i hi1 hi2
      have h0 : i = 0 := by simp at hi2; exact hi2
      subst h0
      rw [Array.getElem?_eq_getElem hi1] at h1
      exact Option.some.inj h1
  subst hc
  obtain ⟨cs, rfl, hr⟩ := h2
  refine (h ok w cs hr).mono fun e w' ⟨v, r, h1, h2, h3, h4⟩ => ⟨v, r, [], [], ok, h1, h3, h4 ok, ?_, fun g hg => by simp at hg, Fw.of _ h2, fun _ h => h, fun _ h => .inl h⟩
  exact ⟨rfl, fun i j b b' g h => by simp at h, fun i b g h => by simp at h, fun g hg => by simp at hg, fun k hk => Nat.lt_of_lt_of_le (hm.small k hk) h2.size, fun i b g h => by simp at h, hm.gl.keep (fun _ h => h) (fun k hk => h2.block k (hm.small k hk))⟩
/-- A predicate of which only what its kind names is there, but for its kids. -/
abbrev aBare (o : Int) (c : ByteArray) (m : Int) (vn : Bool) (vi : Int) (vs : ByteArray) (k : Int) (pt : ByteArray) : A := .agg [xI o, xS (if o = 2 ∨ o = 3 ∨ o = 4 then c else ⟨#[]⟩), xI (if o = 2 then m else 0), xB (if o = 2 then vn else false), xI (if o = 2 then vi else 0), xS (if o = 2 then vs else ⟨#[]⟩), xI (if o = 2 then k else 0), xS (if o = 4 then pt else ⟨#[]⟩), .c (.v (.slice none 0 0))]
theorem RA_nine {μ : List Nat} {ok : Nat → Prop} {w : World} {o : Int} {c : ByteArray} {m : Int} {vn : Bool} {vi : Int} {vs : ByteArray} {k : Int} {pt : ByteArray} {x : C} {u : Value} (h : RC ok w x u) :
    RA (RL μ ok w) (.agg [xI o, xS c, xI m, xB vn, xI vi, xS vs, xI k, xS pt, .c x]) (.agg #[.int .i64 o, .string c, .int .i64 m, .bool vn, .int .i64 vi, .string vs, .int .i64 k, .string pt, u]) := by
  refine ⟨_, rfl, rfl, fun j l hj => ?_⟩
  rcases j with _ | _ | _ | _ | _ | _ | _ | _ | _ | j
  all_goals first | (obtain rfl := Option.some.inj hj; exact ⟨_, rfl, by first | rfl | exact h⟩) | cases hj
theorem RLs_nine {ok : Nat → Prop} {w : World} {o : Int} {c : ByteArray} {m : Int} {vn : Bool} {vi : Int} {vs : ByteArray} {k : Int} {pt : ByteArray} {x : C} {cs : Array Value}
    (h : RLs (RL [] ok w) [xI o, xS c, xI m, xB vn, xI vi, xS vs, xI k, xS pt, .c x] cs.toList) : ∃ u, cs = #[.int .i64 o, .string c, .int .i64 m, .bool vn, .int .i64 vi, .string vs, .int .i64 k, .string pt, u] := by
  obtain ⟨hl, hr⟩ := h
  obtain ⟨cs⟩ := cs
  match cs, hl, hr with
  | [a0, a1, a2, a3, a4, a5, a6, a7, a8], _, hr =>
    have get : ∀ (j : Nat) (l : L) (v : Value), [xI o, xS c, xI m, xB vn, xI vi, xS vs, xI k, xS pt, .c x][j]? = some l → [a0, a1, a2, a3, a4, a5, a6, a7, a8][j]? = some v → RL [] ok w l v := fun j l v h1 h2 => by
      obtain ⟨v', h3, h4⟩ := hr j l h1
      have e : [a0, a1, a2, a3, a4, a5, a6, a7, a8][j]? = some v' := h3
      rw [h2] at e
      obtain rfl := Option.some.inj e
      exact h4
    have h0 : a0 = .int .i64 o := get 0 _ _ rfl rfl
    have h1 : a1 = .string c := get 1 _ _ rfl rfl
    have h2 : a2 = .int .i64 m := get 2 _ _ rfl rfl
    have h3 : a3 = .bool vn := get 3 _ _ rfl rfl
    have h4 : a4 = .int .i64 vi := get 4 _ _ rfl rfl
    have h5 : a5 = .string vs := get 5 _ _ rfl rfl
    have h6 : a6 = .int .i64 k := get 6 _ _ rfl rfl
    have h7 : a7 = .string pt := get 7 _ _ rfl rfl
    exact ⟨a8, by rw [h0, h1, h2, h3, h4, h5, h6, h7]⟩
theorem c68 (o : Int) (c : ByteArray) (m : Int) (vn : Bool) (vi : Int) (vs : ByteArray) (k : Int) (pt : ByteArray) (x : C) : PC Tryz.prog 68 [.agg [xI o, xS c, xI m, xB vn, xI vi, xS vs, xI k, xS pt, .c x]] [] (fun r bx => r = aBare o c m vn vi vs k pt ∧ bx = []) := by
  refine PC_agg Tryz.func68 fun ok w cs h => ?_
  obtain ⟨u, rfl⟩ := RLs_nine h
  by_cases h2 : o = 2
  · subst h2
    refine (wbare2 c m vn vi vs k pt u w).mono fun e w' ⟨h, hb⟩ => ⟨_, _, h, hb, ⟨rfl, rfl⟩, fun ok => RA_nine rfl⟩
  · by_cases h3 : o = 3
    · subst h3
      refine (wbare3 c m vn vi vs k pt u w).mono fun e w' ⟨h, hb⟩ => ⟨_, _, h, hb, ⟨rfl, rfl⟩, fun ok => RA_nine rfl⟩
    · by_cases h4 : o = 4
      · subst h4
        refine (wbare4 c m vn vi vs k pt u w).mono fun e w' ⟨h, hb⟩ => ⟨_, _, h, hb, ⟨rfl, rfl⟩, fun ok => RA_nine rfl⟩
      · refine (wbare0 o h2 h3 h4 c m vn vi vs k pt u w).mono fun e w' ⟨h, hb⟩ => ⟨_, _, h, hb, ⟨rfl, rfl⟩, fun ok => ?_⟩
        simp only [aBare, h2, h3, h4, or_self, if_false]
        exact RA_nine rfl
def flatB (o : Int) (c : ByteArray) (m : Int) (vn : Bool) (vi : Int) (vs : ByteArray) (k : Int) (pt : ByteArray) (o' : Int) (c' : ByteArray) (m' : Int) (vn' : Bool) (vi' : Int) (vs' : ByteArray) (k' : Int) (pt' : ByteArray) : Bool :=
  decide (o = o' ∧ c = c' ∧ m = m' ∧ (vn = vn' ∧ vi = vi' ∧ vs = vs') ∧ k = k' ∧ pt = pt')
theorem c40 (o : Int) (c : ByteArray) (m : Int) (vn : Bool) (vi : Int) (vs : ByteArray) (k : Int) (pt : ByteArray) (x : C) (o' : Int) (c' : ByteArray) (m' : Int) (vn' : Bool) (vi' : Int) (vs' : ByteArray) (k' : Int) (pt' : ByteArray) (x' : C) :
    PC Tryz.prog 40 [.agg [xI o, xS c, xI m, xB vn, xI vi, xS vs, xI k, xS pt, .c x], .agg [xI o', xS c', xI m', xB vn', xI vi', xS vs', xI k', xS pt', .c x']] [] (fun r bx => r = A.bool (flatB o c m vn vi vs k pt o' c' m' vn' vi' vs' k' pt') ∧ bx = []) := by
  refine enter (rs := [.tmp 4]) mx Tryz.func40 Tryz.ntmps40 fun Q0 hQ0 => ?_
  refine sq fun _ _ => ?_
  refine rg (sg ?_)
  refine nx ?_
  refine sq fun _ _ => ?_
  refine rg (sg ?_)
  refine nx ?_
  refine rt ?_
  refine f1 (g := sg ?_)
  refine ax [] ⟨congrArg A.bool ?_, rfl⟩
  unfold flatB
  rw [Bool.eq_iff_iff]
  simp [and_assoc]
theorem c42 (o : Int) (c : ByteArray) (m : Int) (vn : Bool) (vi : Int) (vs : ByteArray) (k : Int) (pt : ByteArray) (x : C) (o' : Int) (c' : ByteArray) (m' : Int) (vn' : Bool) (vi' : Int) (vs' : ByteArray) (k' : Int) (pt' : ByteArray) (x' : C) :
    PC Tryz.prog 42 [.agg [xI o, xS c, xI m, xB vn, xI vi, xS vs, xI k, xS pt, .c x], .agg [xI o', xS c', xI m', xB vn', xI vi', xS vs', xI k', xS pt', .c x']] [] (fun r bx => r = A.bool (flatB o c m vn vi vs k pt o' c' m' vn' vi' vs' k' pt') ∧ bx = []) := by
  refine enter (rs := [.tmp 4]) mx Tryz.func42 Tryz.ntmps42 fun Q0 hQ0 => ?_
  refine sq fun _ _ => ?_
  refine rg (sg ?_)
  refine nx ?_
  refine sq fun _ _ => ?_
  refine rg (sg ?_)
  refine nx ?_
  refine rt ?_
  refine f1 (g := sg ?_)
  refine ax [] ⟨congrArg A.bool ?_, rfl⟩
  unfold flatB
  rw [Bool.eq_iff_iff]
  simp [and_assoc]
theorem c64 (o : Int) (c : ByteArray) (m : Int) (vn : Bool) (vi : Int) (vs : ByteArray) (k : Int) (pt : ByteArray) (x : C) : PC Tryz.prog 64 [.agg [xI o, xS c, xI m, xB vn, xI vi, xS vs, xI k, xS pt, .c x]] [] (fun r bx => r = A.bool (decide (o = 6 ∨ o = 7)) ∧ bx = []) := by
  refine enter (rs := [.tmp 2]) mx Tryz.func64 Tryz.ntmps64 fun Q0 hQ0 => ?_
  refine sq fun _ _ => ?_
  refine rg (sg ?_)
  refine nx ?_
  refine sq fun _ _ => ?_
  refine rg (sg ?_)
  refine nx ?_
  refine rt ?_
  refine f1 (g := sg ?_)
  refine ax [] ⟨congrArg A.bool ?_, rfl⟩
  rw [Bool.eq_iff_iff]
  simp
set_option maxHeartbeats 4000000 in
theorem c69 (ty : Int) (nl cn : Bool) (ci : Int) (cs : ByteArray) : PC Tryz.prog 69 [A.int .i64 ty, A.bool nl, .agg [xB cn, xI ci, xS cs]] [] (fun r bx => r = A.bool (decide (MayC ty nl ⟨cn, ci, cs⟩)) ∧ bx = []) := by
  refine enter (rs := [.tmp 6]) mx Tryz.func69 Tryz.ntmps69 fun Q0 hQ0 => ?_
  refine sq fun _ _ => ?_
  refine rg (sg ?_)
  refine nx ?_
  refine sq fun _ _ => ?_
  refine sq fun _ _ => ?_
  refine rg (sg ?_)
  refine nx ?_
  refine cb (fun h1 => ?_) (fun h1 => ?_)
  · refine sq fun _ _ => ?_
    refine rg (sg ?_)
    refine nx ?_
    refine rt (sg ?_)
    refine f1 (g := sg ?_)
    refine ax [] ⟨congrArg A.bool ?_, rfl⟩
    rw [Bool.eq_iff_iff]
    simp only [MayC, Bool.and_eq_true, Bool.or_eq_true, Bool.false_eq_true, decide_eq_true_eq, beq_iff_eq]
    grind
  · refine sk (sg ?_)
    refine nx ?_
    refine sq fun _ _ => ?_
    refine sq fun _ _ => ?_
    refine rg (sg ?_)
    refine nx ?_
    refine bl ?_
    refine sq fun _ _ => ?_
    refine rg (sg ?_)
    refine nx ?_
    refine cb (fun h2 => ?_) (fun h2 => ?_)
    · refine sq fun _ _ => ?_
      refine rg (sg ?_)
      refine nx ?_
      refine rt (sg ?_)
      refine f1 (g := sg ?_)
      refine ax [] ⟨congrArg A.bool ?_, rfl⟩
      rw [Bool.eq_iff_iff]
      simp only [MayC, Bool.and_eq_true, Bool.or_eq_true, Bool.false_eq_true, decide_eq_true_eq, beq_iff_eq]
      grind
    · refine sq fun _ _ => ?_
      refine rg (sg ?_)
      refine nx ?_
      refine cb (fun h3 => ?_) (fun h3 => ?_)
      · refine sq fun _ _ => ?_
        refine rg (sg ?_)
        refine ⟨fun h => ⟨h, fun h2 => by simp [h, h2]⟩, ?_⟩
        refine nx ?_
        refine rt (sg ?_)
        refine f1 (g := sg ?_)
        refine ax [] ⟨congrArg A.bool ?_, rfl⟩
        rw [Bool.eq_iff_iff]
        simp only [MayC, Bool.and_eq_true, Bool.or_eq_true, Bool.false_eq_true, decide_eq_true_eq, beq_iff_eq]
        grind
      · refine sq fun _ _ => ?_
        refine rg (sg ?_)
        refine nx ?_
        refine cb (fun h4 => ?_) (fun h4 => ?_)
        · refine sq fun _ _ => ?_
          refine rg (sg ?_)
          refine nx ?_
          refine rt (sg ?_)
          refine f1 (g := sg ?_)
          refine ax [] ⟨congrArg A.bool ?_, rfl⟩
          rw [Bool.eq_iff_iff]
          simp only [MayC, Bool.and_eq_true, Bool.or_eq_true, Bool.false_eq_true, decide_eq_true_eq, beq_iff_eq]
          grind
        · refine sk (sg ?_)
          refine nx ?_
          refine sq fun _ _ => ?_
          refine rg (sg ?_)
          refine nx ?_
          refine rt ?_
          refine f1 (g := sg ?_)
          refine ax [] ⟨congrArg A.bool ?_, rfl⟩
          rw [Bool.eq_iff_iff]
          simp only [MayC, Bool.and_eq_true, Bool.or_eq_true, Bool.false_eq_true, decide_eq_true_eq, beq_iff_eq]
          grind
set_option maxHeartbeats 4000000 in
theorem c67 (ty : Int) (nl cn : Bool) (ci : Int) (cs : ByteArray) : PC Tryz.prog 67 [A.int .i64 ty, A.bool nl, .agg [xB cn, xI ci, xS cs]] [] (fun r bx => r = A.bool (decide (MayC ty nl ⟨cn, ci, cs⟩)) ∧ bx = []) := by
  refine enter (rs := [.tmp 6]) mx Tryz.func67 Tryz.ntmps67 fun Q0 hQ0 => ?_
  refine sq fun _ _ => ?_
  refine rg (sg ?_)
  refine nx ?_
  refine sq fun _ _ => ?_
  refine sq fun _ _ => ?_
  refine rg (sg ?_)
  refine nx ?_
  refine cb (fun h1 => ?_) (fun h1 => ?_)
  · refine sq fun _ _ => ?_
    refine rg (sg ?_)
    refine nx ?_
    refine rt (sg ?_)
    refine f1 (g := sg ?_)
    refine ax [] ⟨congrArg A.bool ?_, rfl⟩
    rw [Bool.eq_iff_iff]
    simp only [MayC, Bool.and_eq_true, Bool.or_eq_true, Bool.false_eq_true, decide_eq_true_eq, beq_iff_eq]
    grind
  · refine sk (sg ?_)
    refine nx ?_
    refine sq fun _ _ => ?_
    refine sq fun _ _ => ?_
    refine rg (sg ?_)
    refine nx ?_
    refine cb (fun h2 => ?_) (fun h2 => ?_)
    · refine sq fun _ _ => ?_
      refine rg (sg ?_)
      refine nx ?_
      refine rt (sg ?_)
      refine f1 (g := sg ?_)
      refine ax [] ⟨congrArg A.bool ?_, rfl⟩
      rw [Bool.eq_iff_iff]
      simp only [MayC, Bool.and_eq_true, Bool.or_eq_true, Bool.false_eq_true, decide_eq_true_eq, beq_iff_eq]
      grind
    · refine sk (sg ?_)
      refine nx ?_
      refine sq fun _ _ => ?_
      refine sq fun _ _ => ?_
      refine rg (sg ?_)
      refine nx ?_
      refine cb (fun h3 => ?_) (fun h3 => ?_)
      · refine sq fun _ _ => ?_
        refine rg (sg ?_)
        refine nx ?_
        refine rt (sg ?_)
        refine f1 (g := sg ?_)
        refine ax [] ⟨congrArg A.bool ?_, rfl⟩
        rw [Bool.eq_iff_iff]
        simp only [MayC, Bool.and_eq_true, Bool.or_eq_true, Bool.false_eq_true, decide_eq_true_eq, beq_iff_eq]
        grind
      · refine sk (sg ?_)
        refine nx ?_
        refine sq fun _ _ => ?_
        refine rg (sg ?_)
        refine ⟨fun h => ⟨h, fun h2 => by simp [h, h2]⟩, fun h => ⟨h, fun h2 => by simp [h, h2]⟩, ?_⟩
        refine nx ?_
        refine rt ?_
        refine f1 (g := sg ?_)
        refine ax [] ⟨congrArg A.bool ?_, rfl⟩
        rw [Bool.eq_iff_iff]
        simp only [MayC, Bool.and_eq_true, Bool.or_eq_true, Bool.false_eq_true, decide_eq_true_eq, beq_iff_eq]
        grind

end Go.Proofs.YthinpbnnpelhhaaGreatDoor.V
