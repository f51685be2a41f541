import Derived.Test.YthafcbbkjdbomaaDoorW12
namespace Go.Proofs.YthafcbbkjdbomaaDoor.V
open Go Go.RowKit Go.Proofs.YthafcbbkjdbomaaDoorW.PrintLast
open Go.Proofs
set_option linter.unusedVariables false
set_option linter.unusedSimpArgs false
attribute [local irreducible] awp
set_option maxRecDepth 100000
theorem RA_pairS {μ : List Nat} {ok : Nat → Prop} {w : World} {ls : List L} {cs : Array Value} {y : L} {v : Value} (h1 : RLs (RL μ ok w) ls cs.toList) (h2 : RL μ ok w y v) : RA (RL μ ok w) (.tup [(ls, true), ([y], false)]) (.tuple #[.agg cs, v]) := by
  refine ⟨_, rfl, rfl, fun j z hj => ?_⟩
  rcases j with _ | _ | j
  · obtain rfl := Option.some.inj hj
    exact ⟨.agg cs, rfl, fun _ => ⟨cs, rfl, h1⟩, fun h => (nomatch h)⟩
  · obtain rfl := Option.some.inj hj
    exact ⟨v, rfl, fun h => (nomatch h), fun _ => ⟨y, rfl, h2⟩⟩
  · cases hj
theorem RLs_Tk {μ : List Nat} {ok : Nat → Prop} {w : World} (t : Tk) : RLs (RL μ ok w) (lc (cTk t)) #[.int .i64 t.kind, .string t.s, .int .i64 t.n, .int .i64 t.at_].toList := by
  refine ⟨rfl, fun j l hj => ?_⟩
  rcases j with _ | _ | _ | _ | j
  · obtain rfl := Option.some.inj hj; exact ⟨_, rfl, rfl⟩
  · obtain rfl := Option.some.inj hj; exact ⟨_, rfl, rfl⟩
  · obtain rfl := Option.some.inj hj; exact ⟨_, rfl, rfl⟩
  · obtain rfl := Option.some.inj hj; exact ⟨_, rfl, rfl⟩
  · cases hj
theorem tqL_n (q : Option (List UInt8 × Nat)) : (tqL q).1.n = 0 ∧ (tqL q).1.at_ = 0 := by cases q <;> exact ⟨rfl, rfl⟩
theorem c59 (s : ByteArray) (c : UInt8) (r0 : List UInt8) (hl : bsL s = c :: r0) (hs : s.size ≤ 400) : PC Tryd.prog 59 [A.str s] [] (fun r bx => bx = [] ∧ r = .tup [(lc (cTk (tqL (quotL r0)).1), true), ([xI (tqL (quotL r0)).2], false)]) := by
  have hsz := len_bsL s
  refine PC_libG [.string s] Tryd.func59 fun w w0 _ _ => ?_
  refine (w112 s (by rw [← hsz, hl]; simp) hs w).mono fun e w' ⟨h, hb⟩ => ⟨_, _, h, hb, ⟨rfl, rfl⟩, fun ok => ?_⟩
  have e1 : (bsL s).drop 1 = r0 := by rw [hl]; rfl
  obtain ⟨h1, h2⟩ := tqL_n (quotL r0)
  rw [e1]
  have h3 := RLs_Tk (μ := []) (ok := ok) (w := w') (tqL (quotL r0)).1
  rw [h1, h2] at h3
  exact RA_pairS h3 rfl
set_option maxHeartbeats 4000000 in
theorem c33 (s : ByteArray) (c : Int) (b : UInt8) (r0 : List UInt8) (hl : bsL s = b :: r0) (hs : s.size ≤ 400) (hc : isLt c = letC b ∧ isDg c = digC b ∧ (c = 45 ↔ b.toNat = 45) ∧ (c = 39 ↔ b.toNat = 39)) : PC Tryd.prog 33 [A.str s, .int .i32 c] [] (fun r bx => bx = [] ∧ ∃ t, r = .tup [(lc (cTk t), true), ([xI (oneL (b :: r0)).2], false)] ∧ ((oneL (b :: r0)).2 ≠ 0 → t = (oneL (b :: r0)).1)) := by
  have hsz := len_bsL s
  have hs1 : s.size ≤ 1000 := by omega
  obtain ⟨hc1, hc2, hc3, hc4⟩ := hc
  have hone := oneL_cons b r0
  refine enter (rs := [.cell 4 29, .tmp 5]) mx Tryd.func33 Tryd.ntmps33 fun Q0 hQ0 => ?_
  refine sq fun _ _ => ?_
  refine rg (sg ?_)
  refine nx ?_
  refine sq fun _ _ => ?_
  refine bl ?_
  refine sq fun _ _ => ?_
  refine rg (sg ?_)
  refine cl [] (sg ?_)
  refine (c54 _).mono ?_
  rintro r bx ⟨rfl, rfl⟩
  refine sg ?_
  refine nx ?_
  simp only [hc1]
  refine cb (fun h1 => ?_) (fun h1 => ?_)
  · rw [if_pos h1] at hone
    have hrn : runL namC (bsL s) = runL namC r0 + 1 := by rw [hl, runL_cons, if_pos (by unfold namC; simp [h1])]
    have hle := runL_le namC (bsL s)
    rw [hsz] at hle
    refine sq fun _ _ => ?_
    refine rg (sg ?_)
    refine cl [] (sg ?_)
    refine (cwn s hs1).mono ?_
    rintro r bx ⟨rfl, rfl⟩
    refine sg ?_
    refine nx ?_
    refine sq fun _ _ => ?_
    refine rg (sg ?_)
    refine and_assoc.2 ?_
    refine And.intro (by first | assumption | omega | rfl | trivial) ?_
    refine And.intro (by first | assumption | omega | rfl | trivial) ?_
    refine nx ?_
    refine rt (sg ?_)
    refine f2 (g := sg ?_)
    refine ⟨_, _, rfl, rfl, ?_⟩
    refine ax [] ⟨rfl, ⟨1, s.extract 0 (runL namC (bsL s)), 0, 0⟩, ?_, fun _ => ?_⟩
    · rw [hone, hrn]
      rfl
    · rw [hone, hrn, cut_ofL s 0 _ (by omega), hl]
      rfl
  · rw [if_neg h1] at hone
    have hdc : (digC b || decide (b.toNat = 45)) = true ↔ (digC b = true ∨ c = 45) := by rw [Bool.or_eq_true, decide_eq_true_eq, hc3]
    refine sq fun _ _ => ?_
    refine rg (sg ?_)
    refine cl [] (sg ?_)
    refine (c57 _).mono ?_
    rintro r bx ⟨rfl, rfl⟩
    refine sg ?_
    refine nx ?_
    simp only [hc2]
    refine cb (fun h2 => ?_) (fun h2 => ?_)
    · rw [if_pos (hdc.2 h2), List.take_succ_cons] at hone
      refine sq fun _ _ => ?_
      refine rg (sg ?_)
      refine cl [] (sg ?_)
      refine (c58 _ _ _ (by first | assumption | omega | trivial | rfl) (by first | assumption | omega | trivial | rfl)).mono ?_
      rintro r bx ⟨rfl, rfl⟩
      refine sg ?_
      refine And.intro (by first | assumption | omega | rfl | trivial) ?_
      refine And.intro (by first | assumption | omega | rfl | trivial) ?_
      refine nx ?_
      refine rt (sg ?_)
      refine f2 (g := sg ?_)
      refine And.intro (by simp; omega) ?_
      refine ⟨_, _, rfl, rfl, ?_⟩
      generalize valL (b :: List.take (runL digC r0) r0) = o at hone ⊢
      cases o with
      | none =>
        refine ax [] ⟨rfl, tk0, ?_, fun hne => ?_⟩
        · rw [hone]
          rfl
        · rw [hone] at hne
          exact absurd rfl hne
      | some v =>
        refine ax [] ⟨rfl, ⟨2, ⟨#[]⟩, v, 0⟩, ?_, fun _ => ?_⟩
        · rw [hone]
          rfl
        · rw [hone]
    · rw [if_neg (fun h => h2 (hdc.1 h))] at hone
      refine sq fun _ _ => ?_
      refine rg (sg ?_)
      refine nx ?_
      refine cb (fun h3 => ?_) (fun h3 => ?_)
      · rw [if_pos (hc4.1 h3)] at hone
        refine sq fun _ _ => ?_
        refine rg (sg ?_)
        refine cl [] (sg ?_)
        refine (c59 _ _ _ (by first | assumption | omega | trivial | rfl) (by first | assumption | omega | trivial | rfl)).mono ?_
        rintro r bx ⟨rfl, rfl⟩
        refine sg ?_
        refine And.intro (by first | assumption | omega | rfl | trivial) ?_
        refine And.intro (by first | assumption | omega | rfl | trivial) ?_
        refine nx ?_
        refine rt (sg ?_)
        refine f2 (g := sg ?_)
        refine And.intro (by simp; omega) ?_
        refine ⟨_, _, rfl, rfl, ?_⟩
        generalize quotL r0 = o at hone ⊢
        cases o with
        | none =>
          refine ax [] ⟨rfl, tk0, ?_, fun hne => ?_⟩
          · rw [hone]
            rfl
          · rw [hone] at hne
            exact absurd rfl hne
        | some x =>
          refine ax [] ⟨rfl, ⟨3, ofL x.1, 0, 0⟩, ?_, fun _ => ?_⟩
          · rw [hone]
            rfl
          · rw [hone]
      · rw [if_neg (fun h => h3 (hc4.2 h)), ← hl] at hone
        refine sk (sg ?_)
        refine nx ?_
        refine sq fun _ _ => ?_
        refine rg (sg ?_)
        refine cl [] (sg ?_)
        refine (c60 _ (by first | assumption | omega | trivial | rfl)).mono ?_
        rintro r bx ⟨rfl, t, rfl, ht⟩
        refine sg ?_
        refine And.intro (by first | assumption | omega | rfl | trivial) ?_
        refine And.intro (by first | assumption | omega | rfl | trivial) ?_
        refine nx ?_
        refine rt ?_
        refine f2 (g := sg ?_)
        refine And.intro (by simp; omega) ?_
        refine ⟨_, _, rfl, rfl, ?_⟩
        refine ax [] ⟨rfl, t, ?_, fun hne => ?_⟩
        · rw [hl] at hone
          rw [hl, hone]
          rfl
        · rw [hl] at hone ht
          rw [hone] at hne ⊢
          exact ht hne

end Go.Proofs.YthafcbbkjdbomaaDoor.V
