import Derived.Test.YtdedmhmomoejkaaDoorH2
namespace Go.Proofs.YtdedmhmomoejkaaDoor.V
open Go Go.RowKit Go.Proofs.YtdedmhmomoejkaaDoorW.PrintLast
open Go.Proofs
set_option linter.unusedVariables false
set_option linter.unusedSimpArgs false
attribute [local irreducible] awp
--IMP H2
set_option maxRecDepth 100000
theorem c9 : PC Tryd.prog 9 [] [] (fun r bx => r = .one (.c (.v (.bool true))) ∧ bx = []) := by
  refine enter (rs := [.tmp 0]) mx Tryd.func9 Tryd.ntmps9 fun Q0 hQ0 => ?_
  repeat first | refine nx ?_ | refine sq fun _ _ => ?_ | refine rg (sg ?_) | refine bl ?_ | refine sk (sg ?_) | refine xt (sg ?_) | refine lx (g := sg ?_) | refine ct (hx := ?_) | refine cf (hy := ?_) | refine lr (g := sg ?_) | refine rt (sg ?_) | refine rt ?_ | refine sk ?_ | refine xt ?_ | refine f1 (g := sg ?_) | refine f2 (g := sg ?_) | refine f3 (g := sg ?_) | refine And.intro (by first | assumption | omega) ?_
  refine cl [] (sg ?_)
  refine (c12 1).mono ?_
  rintro r bx ⟨rfl, rfl⟩
  have e : rowA 3 cCo (colsS 1) = .sl 2 3 (elemsOf [cCo ⟨⟨#[97]⟩, 1, false⟩, cCo ⟨⟨#[98]⟩, 3, true⟩]) := rfl
  have e2 : elemsOf [cCo ⟨⟨#[97]⟩, 1, false⟩, cCo ⟨⟨#[98]⟩, 3, true⟩] 1 = el (cCo ⟨⟨#[98]⟩, 3, true⟩) := rfl
  rw [e]
  refine sg ?_
  repeat first | refine nx ?_ | refine sq fun _ _ => ?_ | refine rg (sg ?_) | refine bl ?_ | refine sk (sg ?_) | refine xt (sg ?_) | refine lx (g := sg ?_) | refine ct (hx := ?_) | refine cf (hy := ?_) | refine lr (g := sg ?_) | refine rt (sg ?_) | refine rt ?_ | refine sk ?_ | refine xt ?_ | refine f1 (g := sg ?_) | refine f2 (g := sg ?_) | refine f3 (g := sg ?_) | refine And.intro (by first | assumption | omega) ?_
  simp only [e2]
  refine sg ?_
  refine cl [] (sg ?_)
  refine (c10 5 3).mono ?_
  rintro r bx ⟨rfl, rfl⟩
  have e3 : (min (3 : Int) 100).toNat = 3 := rfl
  simp only [e3, rowA, opsS_len]
  refine sg ?_
  repeat first | refine nx ?_ | refine sq fun _ _ => ?_ | refine rg (sg ?_) | refine bl ?_ | refine sk (sg ?_) | refine xt (sg ?_) | refine lx (g := sg ?_) | refine ct (hx := ?_) | refine cf (hy := ?_) | refine lr (g := sg ?_) | refine rt (sg ?_) | refine rt ?_ | refine sk ?_ | refine xt ?_ | refine f1 (g := sg ?_) | refine f2 (g := sg ?_) | refine f3 (g := sg ?_) | refine And.intro (by first | assumption | omega) ?_
  exact ax [] ⟨rfl, rfl⟩
def noKids : Pr → Prop
  | .mk _ _ _ _ _ _ ks => ks = []
def okOp (x : Opn) : Prop := noKids x.whr ∧ noKids x.q.whr ∧ x.cols.length ≤ 1000 ∧ x.rows.length ≤ 1000 ∧ (∀ r ∈ x.rows, r.length ≤ 1000) ∧ x.q.cols.length ≤ 1000 ∧ x.q.aggs.length ≤ 1000
theorem c14' (x : Opn) (h : okOp x) : PC Tryd.prog 14 [.agg (lc (cOp x)), .agg (lc (cOp x))] [] (fun r bx => r = .one (.c (.v (.bool true))) ∧ bx = []) := by
  obtain ⟨k1, k2, k3, k4, ⟨p1, p2, p3, p4, p5, p6, p7⟩, ⟨q1, q2, ⟨r1, r2, r3, r4, r5, r6, r7⟩, q4, q5⟩⟩ := x
  obtain ⟨h1, h2, h3, h4, h5, h6, h7⟩ := h
  obtain rfl : p7 = [] := h1
  obtain rfl : r7 = [] := h2
  exact c14 _ _ _ _ _ _ _ _ _ _ _ _ _ _ _ _ _ _ _ _ h7 h6 h3 h4 h5
theorem okRows (cols : List Co) (hc : cols.length ≤ 3) (n : Nat) (a : Int) : ∀ r ∈ (rowsS cols n a).1, r.length ≤ 1000 := by
  induction n with
  | zero => intro r h; cases h
  | succ n ih =>
    intro r h
    rcases List.mem_append.1 h with h | h
    · exact ih r h
    · obtain rfl := List.mem_singleton.1 h
      rw [rowS_len]
      omega
theorem okOne (a : Int) : okOp (oneS a).1 := by
  have ht := drw_rng 3 (nxt a) (by omega) (by omega)
  have hc := colsS_len _ ht.1 ht.2
  have h4 := drw_rng 4 (nxt (nxt a)) (by omega) (by omega)
  have hn : ∀ r ∈ ([] : List (List Ce)), r.length ≤ 1000 := fun r h => by cases h
  unfold oneS
  dsimp only
  split
  · exact ⟨rfl, rfl, by dsimp only; omega, Nat.zero_le _, hn, Nat.zero_le _, Nat.zero_le _⟩
  split
  · refine ⟨rfl, rfl, Nat.zero_le _, ?_, okRows _ hc.2 _ _, Nat.zero_le _, Nat.zero_le _⟩
    show (rowsS _ _ _).1.length ≤ _
    rw [rowsS_len]
    omega
  split
  · exact ⟨rfl, rfl, Nat.zero_le _, Nat.zero_le _, hn, Nat.zero_le _, Nat.zero_le _⟩
  split
  · refine ⟨rfl, rfl, Nat.zero_le _, Nat.zero_le _, hn, Nat.zero_le _, ?_⟩
    show (if _ then aggs2 else []).length ≤ _
    split <;> decide
  split
  · exact ⟨rfl, rfl, Nat.zero_le _, Nat.zero_le _, hn, Nat.zero_le _, Nat.zero_le _⟩
  split
  · exact ⟨rfl, rfl, Nat.zero_le _, Nat.zero_le _, hn, Nat.zero_le _, Nat.zero_le _⟩
  · exact ⟨rfl, rfl, Nat.zero_le _, Nat.zero_le _, hn, Nat.zero_le _, Nat.zero_le _⟩
theorem opsS_at (a : Int) (i : Nat) : ∀ (n : Nat) (h : i < (opsS n a).1.length), (opsS n a).1[i]'h = (oneS (opsS i a).2).1
  | 0, h => absurd h (Nat.not_lt_zero _)
  | n + 1, h => by
    have hl : i < n + 1 := by rw [opsS_len] at h; exact h
    rcases Nat.lt_or_ge i n with h2 | h2
    · have h3 : i < (opsS n a).1.length := by rw [opsS_len]; exact h2
      rw [← opsS_at a i n h3]
      exact List.getElem_append_left h3
    · have e : i = n := by omega
      subst e
      have : (opsS (i + 1) a).1 = (opsS i a).1 ++ [(oneS (opsS i a).2).1] := rfl
      rw [List.getElem_of_eq this, List.getElem_append_right (by rw [opsS_len]; exact Nat.le_refl _)]
      simp [opsS_len]
theorem el_z (x : C) (r : List C) : el (x :: r) 0 = x := rfl
theorem el_s (x : C) (r : List C) (n : Nat) : el (x :: r) (n + 1) = el r n := rfl
theorem c4 (s m n : Int) (hs : 0 ≤ s) : PC Tryd.prog 4 [.int .u64 s, .int .i64 m, .int .i64 n] [] (fun r bx => r = .one (.c (.v (.bool true))) ∧ bx = []) := by
  refine enter (rs := [.tmp 6]) mx Tryd.func4 Tryd.ntmps4 fun Q0 hQ0 => ?_
  repeat first | refine nx ?_ | refine sq fun _ _ => ?_ | refine rg (sg ?_) | refine bl ?_ | refine sk (sg ?_) | refine xt (sg ?_) | refine lx (g := sg ?_) | refine ct (hx := ?_) | refine cf (hy := ?_) | refine lr (g := sg ?_) | refine rt (sg ?_) | refine rt ?_ | refine sk ?_ | refine xt ?_ | refine f1 (g := sg ?_) | refine f2 (g := sg ?_) | refine f3 (g := sg ?_) | refine And.intro (by first | assumption | omega) ?_
  refine cb (fun h => ?_) (fun h => ?_)
  · repeat first | refine nx ?_ | refine sq fun _ _ => ?_ | refine rg (sg ?_) | refine bl ?_ | refine sk (sg ?_) | refine xt (sg ?_) | refine lx (g := sg ?_) | refine ct (hx := ?_) | refine cf (hy := ?_) | refine lr (g := sg ?_) | refine rt (sg ?_) | refine rt ?_ | refine sk ?_ | refine xt ?_ | refine f1 (g := sg ?_) | refine f2 (g := sg ?_) | refine f3 (g := sg ?_) | refine And.intro (by first | assumption | omega) ?_
    refine cl [] (sg ?_)
    refine c9.mono ?_
    rintro r bx ⟨rfl, rfl⟩
    refine sg ?_
    repeat first | refine nx ?_ | refine sq fun _ _ => ?_ | refine rg (sg ?_) | refine bl ?_ | refine sk (sg ?_) | refine xt (sg ?_) | refine lx (g := sg ?_) | refine ct (hx := ?_) | refine cf (hy := ?_) | refine lr (g := sg ?_) | refine rt (sg ?_) | refine rt ?_ | refine sk ?_ | refine xt ?_ | refine f1 (g := sg ?_) | refine f2 (g := sg ?_) | refine f3 (g := sg ?_) | refine And.intro (by first | assumption | omega) ?_
    exact ax [] ⟨rfl, rfl⟩
  · obtain ⟨m, rfl⟩ : ∃ k : Nat, m = (k : Int) := ⟨m.toNat, by omega⟩
    obtain ⟨n, rfl⟩ : ∃ k : Nat, n = (k : Int) := ⟨n.toNat, by omega⟩
    have em : (min (m : Int) 100).toNat = m := by omega
    have en : (min (n : Int) 100).toNat = n := by omega
    repeat first | refine nx ?_ | refine sq fun _ _ => ?_ | refine rg (sg ?_) | refine bl ?_ | refine sk (sg ?_) | refine xt (sg ?_) | refine lx (g := sg ?_) | refine ct (hx := ?_) | refine cf (hy := ?_) | refine lr (g := sg ?_) | refine rt (sg ?_) | refine rt ?_ | refine sk ?_ | refine xt ?_ | refine f1 (g := sg ?_) | refine f2 (g := sg ?_) | refine f3 (g := sg ?_) | refine And.intro (by first | assumption | omega) ?_
    refine cl [] (sg ?_)
    refine (c10 s m).mono ?_
    rintro r bx ⟨rfl, rfl⟩
    simp only [em, rowA, opsS_len]
    refine sg ?_
    refine cl [] (sg ?_)
    refine (c10 s n).mono ?_
    rintro r bx ⟨rfl, rfl⟩
    simp only [en, rowA, opsS_len]
    refine sg ?_
    repeat first | refine nx ?_ | refine sq fun _ _ => ?_ | refine rg (sg ?_) | refine bl ?_ | refine sk (sg ?_) | refine xt (sg ?_) | refine lx (g := sg ?_) | refine ct (hx := ?_) | refine cf (hy := ?_) | refine lr (g := sg ?_) | refine rt (sg ?_) | refine rt ?_ | refine sk ?_ | refine xt ?_ | refine f1 (g := sg ?_) | refine f2 (g := sg ?_) | refine f3 (g := sg ?_) | refine And.intro (by first | assumption | omega) ?_
    refine lp [1, 2, 7, 8, 9] [] (fun k σ => ∃ i : Nat, k = m - i ∧ i ≤ m ∧ σ = ⟨62, 0, [(1, .int .i64 m), (2, .int .i64 n), (7, .one (.c (.sl m 26 (elemsOf ((opsS m s).1.map cOp))))), (8, .one (.c (.sl n 26 (elemsOf ((opsS n s).1.map cOp))))), (9, .int .i64 i)], []⟩) m ?_ ?_
    · exact ⟨0, by omega, by omega, rfl⟩
    · rintro k' σ' ⟨i, hk, hi, rfl⟩ Q1 hQ1
      repeat first | refine nx ?_ | refine sq fun _ _ => ?_ | refine rg (sg ?_) | refine bl ?_ | refine sk (sg ?_) | refine xt (sg ?_) | refine lx (g := sg ?_) | refine ct (hx := ?_) | refine cf (hy := ?_) | refine lr (g := sg ?_) | refine rt (sg ?_) | refine rt ?_ | refine sk ?_ | refine xt ?_ | refine f1 (g := sg ?_) | refine f2 (g := sg ?_) | refine f3 (g := sg ?_) | refine And.intro (by first | assumption | omega) ?_
      refine cb (fun h => ?_) (fun h => ?_)
      · have him : i < m := by omega
        have hin : i < n := by omega
        have hwi : IntKind.i64.wrap ((i : Int) + 1) = ((i + 1 : Nat) : Int) := by rw [IntKind.wrap_i64]; omega
        have he1 := el_at (f := cOp) (show i < (opsS m s).1.length by rw [opsS_len]; exact him)
        have he2 := el_at (f := cOp) (show i < (opsS n s).1.length by rw [opsS_len]; exact hin)
        rw [opsS_at] at he1 he2
        have hx := c14' _ (okOne (opsS i s).2)
        generalize (oneS (opsS i s).2).1 = x at he1 he2 hx
        obtain ⟨k1, k2, k3, k4, ⟨p1, p2, p3, p4, p5, p6, p7⟩, ⟨q1, q2, ⟨r1, r2, r3, r4, r5, r6, r7⟩, q4, q5⟩⟩ := x
        repeat first | refine nx ?_ | refine sq fun _ _ => ?_ | refine rg (sg ?_) | refine bl ?_ | refine sk (sg ?_) | refine xt (sg ?_) | refine lx (g := sg ?_) | refine ct (hx := ?_) | refine cf (hy := ?_) | refine lr (g := sg ?_) | refine rt (sg ?_) | refine rt ?_ | refine sk ?_ | refine xt ?_ | refine f1 (g := sg ?_) | refine f2 (g := sg ?_) | refine f3 (g := sg ?_) | refine And.intro (by first | assumption | omega) ?_
        refine dr [.take 0, .take 1, .take 2, .take 3, .take 4, .take 5, .take 6, .take 7, .one 8, .pure 9] [] (sg ?_)
        simp only [he1, he2, cOp, cQu, cPr, rowA, List.cons_append, List.nil_append, el_z, el_s]
        refine ⟨⟨by omega, by omega⟩, ⟨by omega, by omega⟩, ?_⟩
        refine cl [] (sg ?_)
        simp only [cOp, cQu, cPr, lc, rowA, List.map_cons, List.map_nil, List.cons_append, List.nil_append] at hx
        refine hx.mono ?_
        rintro r bx ⟨rfl, rfl⟩
        refine sg ?_
        repeat first | refine nx ?_ | refine sq fun _ _ => ?_ | refine rg (sg ?_) | refine bl ?_ | refine sk (sg ?_) | refine xt (sg ?_) | refine lx (g := sg ?_) | refine ct (hx := ?_) | refine cf (hy := ?_) | refine lr (g := sg ?_) | refine rt (sg ?_) | refine rt ?_ | refine sk ?_ | refine xt ?_ | refine f1 (g := sg ?_) | refine f2 (g := sg ?_) | refine f3 (g := sg ?_) | refine And.intro (by first | assumption | omega) ?_
        refine ln (m - (i + 1)) [] ?_ ?_
        · omega
        refine ⟨i + 1, rfl, by omega, ?_⟩
        rw [← hwi]
        rfl
      · repeat first | refine nx ?_ | refine sq fun _ _ => ?_ | refine rg (sg ?_) | refine bl ?_ | refine sk (sg ?_) | refine xt (sg ?_) | refine lx (g := sg ?_) | refine ct (hx := ?_) | refine cf (hy := ?_) | refine lr (g := sg ?_) | refine rt (sg ?_) | refine rt ?_ | refine sk ?_ | refine xt ?_ | refine f1 (g := sg ?_) | refine f2 (g := sg ?_) | refine f3 (g := sg ?_) | refine And.intro (by first | assumption | omega) ?_
        refine cl [] (sg ?_)
        refine c9.mono ?_
        rintro r bx ⟨rfl, rfl⟩
        refine sg ?_
        repeat first | refine nx ?_ | refine sq fun _ _ => ?_ | refine rg (sg ?_) | refine bl ?_ | refine sk (sg ?_) | refine xt (sg ?_) | refine lx (g := sg ?_) | refine ct (hx := ?_) | refine cf (hy := ?_) | refine lr (g := sg ?_) | refine rt (sg ?_) | refine rt ?_ | refine sk ?_ | refine xt ?_ | refine f1 (g := sg ?_) | refine f2 (g := sg ?_) | refine f3 (g := sg ?_) | refine And.intro (by first | assumption | omega) ?_
        exact ax [] ⟨rfl, rfl⟩
end Go.Proofs.YtdedmhmomoejkaaDoor.V
