import Derived.Test.YthafcbbkjdbomaaDoorM1
namespace Go.Proofs.YthafcbbkjdbomaaDoor.V
open Go Go.RowKit Go.Proofs.YthafcbbkjdbomaaDoorW.PrintLast
open Go.Proofs
set_option linter.unusedVariables false
set_option linter.unusedSimpArgs false
attribute [local irreducible] awp
set_option maxRecDepth 100000
/-- May they be a table's columns, but for how many? -/
def OkC (l : List Co) : Prop := l ≠ [] ∧ ∀ (i : Nat) (h : i < l.length), nameB l[i].nm = true ∧ 1 ≤ l[i].ty ∧ l[i].ty ≤ 3 ∧ ∀ (k : Nat) (hk : k < i), l[k].nm ≠ l[i].nm
open Classical in
noncomputable def chK (l : List Co) : Int := if OkC l then (if 6 < l.length then 4 else 0) else 1
theorem chK_bad {l : List Co} (h : ¬ OkC l) : chK l = 1 := if_neg h
set_option maxHeartbeats 8000000 in
theorem c47 (l : List Co) (hl : l.length ≤ 1000) (hz : ∀ (i : Nat) (h : i < l.length), l[i].nm.size ≤ 100) : PC Tryd.prog 47 [xRow l.length 3 (elemsOf (l.map cCo))] [] (fun r bx => r = A.int .i64 (chK l) ∧ bx = []) := by
  refine enter (rs := [.tmp 2]) mx Tryd.func47 Tryd.ntmps47 fun Q0 hQ0 => ?_
  refine sq fun _ _ => ?_
  refine rg (sg ?_)
  refine nx ?_
  refine sq fun _ _ => ?_
  refine sq fun _ _ => ?_
  refine rg (sg ?_)
  refine nx ?_
  refine cb (fun h1 => ?_) (fun h1 => ?_)
  · have hn : chK l = 1 := chK_bad fun h => h.1 (List.eq_nil_of_length_eq_zero (by omega))
    refine sq fun _ _ => ?_
    refine rg (sg ?_)
    refine nx ?_
    refine rt (sg ?_)
    refine f1 (g := sg ?_)
    exact ax [] ⟨by rw [hn]; rfl, rfl⟩
  · refine sk (sg ?_)
    refine nx ?_
    refine sq fun _ _ => ?_
    refine sq fun _ _ => ?_
    refine rg (sg ?_)
    refine nx ?_
    refine bl ?_
    refine lp [0, 9, 10, 11] [] (fun k σ => ∃ i : Nat, k = l.length - i ∧ i ≤ l.length ∧ (∀ (j : Nat) (h : j < l.length), j < i → nameB l[j].nm = true ∧ 1 ≤ l[j].ty ∧ l[j].ty ≤ 3 ∧ ∀ (k : Nat) (hk : k < j), l[k].nm ≠ l[j].nm) ∧ σ = ⟨42, 0, [(0, xRow l.length 3 (elemsOf (l.map cCo))), (9, xRow l.length 3 (elemsOf (l.map cCo))), (10, A.int .i64 l.length), (11, A.int .i64 i)], []⟩) l.length ?_ ?_
    · exact ⟨0, by omega, by omega, fun j h h2 => absurd h2 (Nat.not_lt_zero _), keq⟩
    · rintro k σ' ⟨i, hk, hi, hall, rfl⟩ Q1 hQ1
      refine sq fun _ _ => ?_
      refine rg (sg ?_)
      refine nx ?_
      refine sq fun _ _ => ?_
      refine cb (fun h => ?_) (fun h => ?_)
      · have hin : i < l.length := by omega
        have hwi : IntKind.i64.wrap ((i : Int) + 1) = ((i + 1 : Nat) : Int) := wrap_succ (by omega)
        have hee := el_at (f := cCo) hin
        have hzi := hz i hin
        have hzi1 : l[i].nm.size ≤ 1000 := by omega
        refine sk (sg ?_)
        refine nx ?_
        refine sq fun _ _ => ?_
        refine bl ?_
        refine sq fun _ _ => ?_
        refine rg (sg ?_)
        refine and_assoc.2 ?_
        refine And.intro (by first | assumption | omega | rfl | trivial) ?_
        refine And.intro (by first | assumption | omega | rfl | trivial) ?_
        simp (disch := omega) only [el_at]
        refine sg ?_
        refine nx ?_
        refine sq fun _ _ => ?_
        refine rg (sg ?_)
        refine and_assoc.2 ?_
        refine And.intro (by first | assumption | omega | rfl | trivial) ?_
        refine And.intro (by first | assumption | omega | rfl | trivial) ?_
        refine cl [0] (sg ?_)
        refine (c73 _ _ _ (by first | assumption | omega | trivial | rfl) (by first | assumption | omega | trivial | rfl)).mono ?_
        rintro r bx ⟨⟨b, rfl, hb⟩, rfl⟩
        refine sg ?_
        cases b
        · have hnd : ∀ (k : Nat) (hk : k < i), l[k].nm ≠ l[i].nm := fun k hk h3 => by
            have := hb.2 ⟨k, by omega, hk, h3⟩
            cases this
          refine nx ?_
          refine sq fun _ _ => ?_
          refine rg (sg ?_)
          refine cl [] (sg ?_)
          refine (c69 _ (by first | assumption | omega | trivial | rfl)).mono ?_
          rintro r bx ⟨rfl, rfl⟩
          refine sg ?_
          refine nx ?_
          refine cb (fun h2 => ?_) (fun h2 => ?_)
          · have hn : chK l = 1 := chK_bad fun h => by
              have h3 := (h.2 i hin)
              rcases h2 with (h2 | h2) | h2
              · exact absurd (h2.symm.trans h3.1) (by decide)
              · omega
              · omega
            refine sq fun _ _ => ?_
            refine rg (sg ?_)
            refine nx ?_
            refine rt (sg ?_)
            refine lr (g := sg ?_)
            refine f1 (g := sg ?_)
            exact ax [] ⟨by rw [hn]; rfl, rfl⟩
          · have hg : nameB l[i].nm = true ∧ 1 ≤ l[i].ty ∧ l[i].ty ≤ 3 := by
              refine ⟨?_, by omega, by omega⟩
              cases hb : nameB l[i].nm
              · exact absurd (.inl (.inl hb)) h2
              · rfl
            have hall4 : ∀ (j : Nat) (h : j < l.length), j < i + 1 → nameB l[j].nm = true ∧ 1 ≤ l[j].ty ∧ l[j].ty ≤ 3 ∧ ∀ (k : Nat) (hk : k < j), l[k].nm ≠ l[j].nm := by
              intro m hm h5
              by_cases hmi : m = i
              · subst hmi
                exact ⟨hg.1, hg.2.1, hg.2.2, hnd⟩
              · exact hall m hm (by omega)
            refine sk (sg ?_)
            refine nx ?_
            refine rg (sg ?_)
            simp (disch := omega) only [wrap_succ]
            refine ln (l.length - (i + 1)) [] ?_ ?_
            · omega
            exact ⟨i + 1, by omega, by omega, hall4, keq⟩
        · have hn : chK l = 1 := chK_bad fun h => by
            obtain ⟨j, hj, hji, h3⟩ := hb.1 rfl
            exact (h.2 i hin).2.2.2 j hji h3
          refine nx ?_
          refine sq fun _ _ => ?_
          refine rg (sg ?_)
          simp only [undef]
          refine sg ?_
          refine nx ?_
          refine ct (hx := ?_)
          refine sq fun _ _ => ?_
          refine rg (sg ?_)
          refine nx ?_
          refine rt (sg ?_)
          refine lr (g := sg ?_)
          refine f1 (g := sg ?_)
          exact ax [] ⟨by rw [hn]; rfl, rfl⟩
      · have hok : OkC l := ⟨fun h0 => h1 (by rw [h0]; rfl), fun j hj => hall j hj (by omega)⟩
        refine xt (sg ?_)
        refine lx (g := sg ?_)
        refine nx ?_
        refine sq fun _ _ => ?_
        refine sq fun _ _ => ?_
        refine rg (sg ?_)
        refine nx ?_
        refine cb (fun h6 => ?_) (fun h6 => ?_)
        · have hn : chK l = 4 := by unfold chK; rw [if_pos hok, if_pos (by omega)]
          refine sq fun _ _ => ?_
          refine rg (sg ?_)
          refine nx ?_
          refine rt (sg ?_)
          refine f1 (g := sg ?_)
          exact ax [] ⟨by rw [hn]; rfl, rfl⟩
        · have hn : chK l = 0 := by unfold chK; rw [if_pos hok, if_neg (by omega)]
          refine sk (sg ?_)
          refine nx ?_
          refine sq fun _ _ => ?_
          refine rg (sg ?_)
          refine nx ?_
          refine rt ?_
          refine f1 (g := sg ?_)
          exact ax [] ⟨by rw [hn]; rfl, rfl⟩
set_option maxHeartbeats 8000000 in
theorem c50 (l : List Co) (hl : l.length ≤ 1000) (hz : ∀ (i : Nat) (h : i < l.length), l[i].nm.size ≤ 100) : PC Tryd.prog 50 [xRow l.length 3 (elemsOf (l.map cCo))] [] (fun r bx => r = A.int .i64 (chK l) ∧ bx = []) := by
  refine enter (rs := [.tmp 2]) mx Tryd.func50 Tryd.ntmps50 fun Q0 hQ0 => ?_
  refine sq fun _ _ => ?_
  refine rg (sg ?_)
  refine nx ?_
  refine sq fun _ _ => ?_
  refine sq fun _ _ => ?_
  refine rg (sg ?_)
  refine nx ?_
  refine bl ?_
  refine lp [0, 3] [] (fun k σ => ∃ i : Nat, k = l.length - i ∧ i ≤ l.length ∧ (∀ (j : Nat) (h : j < l.length), j < i → nameB l[j].nm = true ∧ 1 ≤ l[j].ty ∧ l[j].ty ≤ 3 ∧ ∀ (k : Nat) (hk : k < j), l[k].nm ≠ l[j].nm) ∧ σ = ⟨56, 0, [(0, xRow l.length 3 (elemsOf (l.map cCo))), (3, A.int .i64 i)], []⟩) l.length ?_ ?_
  · exact ⟨0, by omega, by omega, fun j h h2 => absurd h2 (Nat.not_lt_zero _), keq⟩
  · rintro k σ' ⟨i, hk, hi, hall, rfl⟩ Q1 hQ1
    refine sq fun _ _ => ?_
    refine sq fun _ _ => ?_
    refine rg (sg ?_)
    refine nx ?_
    refine cb (fun h => ?_) (fun h => ?_)
    · have hin : i < l.length := by omega
      have hwi : IntKind.i64.wrap ((i : Int) + 1) = ((i + 1 : Nat) : Int) := wrap_succ (by omega)
      have hee := el_at (f := cCo) hin
      have hzi := hz i hin
      have hzi1 : l[i].nm.size ≤ 1000 := by omega
      refine sk (sg ?_)
      refine nx ?_
      refine sq fun _ _ => ?_
      refine bl ?_
      refine sq fun _ _ => ?_
      refine sq fun _ _ => ?_
      refine rg (sg ?_)
      refine and_assoc.2 ?_
      refine And.intro (by first | assumption | omega | rfl | trivial) ?_
      refine And.intro (by first | assumption | omega | rfl | trivial) ?_
      refine cl [] (sg ?_)
      simp (disch := omega) only [el_at]
      refine sg ?_
      refine (c61 _ (by first | assumption | omega | trivial | rfl)).mono ?_
      rintro r bx ⟨rfl, rfl⟩
      refine sg ?_
      simp (disch := omega) only [el_at]
      refine sg ?_
      refine ⟨fun h => ⟨h, h, by omega, by omega⟩, fun h => ⟨h, h, by omega, by omega⟩, ?_⟩
      refine nx ?_
      refine cb (fun h2 => ?_) (fun h2 => ?_)
      · have hn : chK l = 1 := chK_bad fun h => by
          have h3 := (h.2 i hin)
          rcases h2 with (h2 | h2) | h2
          · exact absurd (h2.symm.trans h3.1) (by decide)
          · omega
          · omega
        refine sq fun _ _ => ?_
        refine rg (sg ?_)
        refine nx ?_
        refine rt (sg ?_)
        refine lr (g := sg ?_)
        refine f1 (g := sg ?_)
        exact ax [] ⟨by rw [hn]; rfl, rfl⟩
      · have hg : nameB l[i].nm = true ∧ 1 ≤ l[i].ty ∧ l[i].ty ≤ 3 := by
          refine ⟨?_, by omega, by omega⟩
          cases hb : nameB l[i].nm
          · exact absurd (.inl (.inl hb)) h2
          · rfl
        refine sk (sg ?_)
        refine nx ?_
        refine sq fun _ _ => ?_
        refine rg (sg ?_)
        refine nx ?_
        refine bl ?_
        refine lp [0, 3, 4] [] (fun k σ => ∃ j : Nat, k = i - j ∧ j ≤ i ∧ (∀ (m : Nat) (h : m < l.length), m < j → l[m].nm ≠ l[i].nm) ∧ σ = ⟨56, 0, [(0, xRow l.length 3 (elemsOf (l.map cCo))), (3, A.int .i64 i), (4, A.int .i64 j)], []⟩) i ?_ ?_
        · exact ⟨0, by omega, by omega, fun j h h2 => absurd h2 (Nat.not_lt_zero _), keq⟩
        · rintro k2 σ2 ⟨j, hk2, hj, hall2, rfl⟩ Q2 hQ2
          refine sq fun _ _ => ?_
          refine sq fun _ _ => ?_
          refine rg (sg ?_)
          refine nx ?_
          refine cb (fun h3 => ?_) (fun h3 => ?_)
          · have hjn : j < l.length := by omega
            have hwj : IntKind.i64.wrap ((j : Int) + 1) = ((j + 1 : Nat) : Int) := wrap_succ (by omega)
            have hej := el_at (f := cCo) hjn
            refine sk (sg ?_)
            refine nx ?_
            refine sq fun _ _ => ?_
            refine bl ?_
            refine sq fun _ _ => ?_
            refine dr [.take 0, .take 1, .take 2, .take 3, .take 4, .take 5, .take 6, .take 7, .take 8, .take 9, .take 10] [] (sg ?_)
            refine and_assoc.2 ?_
            refine And.intro (by first | assumption | omega | rfl | trivial) ?_
            refine And.intro (by first | assumption | omega | rfl | trivial) ?_
            refine and_assoc.2 ?_
            refine And.intro (by first | assumption | omega | rfl | trivial) ?_
            refine And.intro (by first | assumption | omega | rfl | trivial) ?_
            simp (disch := omega) only [el_at]
            refine sg ?_
            refine nx ?_
            refine cb (fun h4 => ?_) (fun h4 => ?_)
            · have hn : chK l = 1 := chK_bad fun h => (h.2 i hin).2.2.2 j (by omega) h4
              refine sq fun _ _ => ?_
              refine rg (sg ?_)
              refine nx ?_
              refine rt (sg ?_)
              refine lr (g := sg ?_)
              refine lr (g := sg ?_)
              refine f1 (g := sg ?_)
              exact ax [] ⟨by rw [hn]; rfl, rfl⟩
            · have hall3 : ∀ (m : Nat) (h : m < l.length), m < j + 1 → l[m].nm ≠ l[i].nm := by
                intro m hm h5
                by_cases hmj : m = j
                · subst hmj
                  exact h4
                · exact hall2 m hm (by omega)
              refine sk (sg ?_)
              refine nx ?_
              refine rg (sg ?_)
              simp (disch := omega) only [wrap_succ]
              refine ln (i - (j + 1)) [] ?_ ?_
              · omega
              exact ⟨j + 1, by omega, by omega, hall3, keq⟩
          · have hall4 : ∀ (j : Nat) (h : j < l.length), j < i + 1 → nameB l[j].nm = true ∧ 1 ≤ l[j].ty ∧ l[j].ty ≤ 3 ∧ ∀ (k : Nat) (hk : k < j), l[k].nm ≠ l[j].nm := by
              intro m hm h5
              by_cases hmi : m = i
              · subst hmi
                exact ⟨hg.1, hg.2.1, hg.2.2, fun k hk => hall2 k (by omega) (by omega)⟩
              · exact hall m hm (by omega)
            refine xt (sg ?_)
            refine lx (g := sg ?_)
            refine nx ?_
            refine rg (sg ?_)
            simp (disch := omega) only [wrap_succ]
            refine ln (l.length - (i + 1)) [] ?_ ?_
            · omega
            exact ⟨i + 1, by omega, by omega, hall4, keq⟩
    · refine xt (sg ?_)
      refine lx (g := sg ?_)
      refine nx ?_
      refine sq fun _ _ => ?_
      refine sq fun _ _ => ?_
      refine rg (sg ?_)
      refine nx ?_
      refine cb (fun h5 => ?_) (fun h5 => ?_)
      · have hn : chK l = 1 := chK_bad fun h => h.1 (List.eq_nil_of_length_eq_zero (by omega))
        refine sq fun _ _ => ?_
        refine rg (sg ?_)
        refine nx ?_
        refine rt (sg ?_)
        refine f1 (g := sg ?_)
        exact ax [] ⟨by rw [hn]; rfl, rfl⟩
      · have hok : OkC l := ⟨fun h0 => h5 (by rw [h0]; rfl), fun j hj => hall j hj (by omega)⟩
        refine sk (sg ?_)
        refine nx ?_
        refine sq fun _ _ => ?_
        refine sq fun _ _ => ?_
        refine rg (sg ?_)
        refine nx ?_
        refine cb (fun h6 => ?_) (fun h6 => ?_)
        · have hn : chK l = 4 := by unfold chK; rw [if_pos hok, if_pos (by omega)]
          refine sq fun _ _ => ?_
          refine rg (sg ?_)
          refine nx ?_
          refine rt (sg ?_)
          refine f1 (g := sg ?_)
          exact ax [] ⟨by rw [hn]; rfl, rfl⟩
        · have hn : chK l = 0 := by unfold chK; rw [if_pos hok, if_neg (by omega)]
          refine sk (sg ?_)
          refine nx ?_
          refine sq fun _ _ => ?_
          refine rg (sg ?_)
          refine nx ?_
          refine rt ?_
          refine f1 (g := sg ?_)
          exact ax [] ⟨by rw [hn]; rfl, rfl⟩

end Go.Proofs.YthafcbbkjdbomaaDoor.V
