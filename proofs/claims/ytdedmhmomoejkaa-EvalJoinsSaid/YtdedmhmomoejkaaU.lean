/- EvalJoins holds: not of an and is the or of the nots, and not of an or is the and of them, whatever the columns, the two predicates and the rows. -/
import Derived.Test.YtdedmhmomoejkaaU2
import Derived.Test.YtdedmhmomoejkaaU4
import Derived.Test.YtdedmhmomoejkaaU6
import Derived.Test.YtdedmhmomoejkaaU7
import Derived.StillTailTactics
import Derived.Test.YtdedmhmomoejkaaRows
import Derived.WalkKit
import Derived.OpenShut
import Derived.ShutString
import Derived.ChangeOld
import Derived.Below
import Derived.SizedLaws
namespace Go.Proofs.Ytdedmhmomoejkaa.X
open Go.RowKit Go.Proofs.YtdedmhmomoejkaaW.PrintWords Go.Proofs.YtdedmhmomoejkaaW.PrintLast
set_option linter.unusedVariables false
set_option linter.unusedSimpArgs false
theorem fits_good3 (l : List S64) (x : S27) (h : fitsE l x = 0) : Good mayStep 6 x ∧ Good (typedStep l) 6 x := by
  unfold fitsE at h
  by_cases hc : mayB x = true ∧ checkE l = 0
  · rw [if_pos hc] at h
    cases hb : (ev (typedStep l) 6 x ()).1
    · rw [hb] at h; simp at h
    · exact ⟨⟨0, hc.1⟩, ⟨(), hb⟩⟩
  · rw [if_neg hc] at h
    omega
theorem live20 : firkinlaw20_live.f 60 = some true := by decide +kernel
theorem row20 (l0 : List S64) (l1 : List S24) (x : S27) (hl : l0.length ≤ 9223372036854775806) (hL : Lens 6 x) :
    TotP (fun r => r.2 = 0 → r.1 = ask3 l0 l1 6 x) (fun k => eval_Row.f k l0 x.f0 x.f1 x.f2 x.f3.f0 x.f3.f1 x.f3.f2 x.f4 x.f5 x.f6 l1) := by
  unfold eval_Row.f
  simp only [pred_Fits.f, Option.bind_some]
  refine TotP.ite (fun h0 => ?_) (fun h0 => TotP.some_ (fun h => absurd h h0))
  obtain ⟨hm, ht⟩ := fits_good3 l0 x h0
  refine TotP.bind (row_tot l0 l1 hl) (fun b hb => ?_)
  refine TotP.ite (fun g => ?_) (fun g => TotP.some_ (fun h => by simp at h))
  obtain ⟨hz, hc⟩ := hb g
  exact TotP.bind (ask3_tot l0 l1 hz hc 6 x hL hm ht) (fun t ht => TotP.some_ (fun _ => ht))
theorem loop3_range : ∀ (l : List Int) (s o : Int), (s = 0 ∨ s = 1 ∨ s = 2) → (o = 0 ∨ o = 1 ∨ o = 2) → (loop3 s o l = 0 ∨ loop3 s o l = 1 ∨ loop3 s o l = 2)
  | [], s, o, _, h => h
  | t :: r, s, o, h1, h2 => by
    rw [loop3]
    split
    · exact h1
    · split
      · exact loop3_range r s 2 h1 (by omega)
      · exact loop3_range r s o h1 h2
theorem ask3_range (l0 : List S64) (l1 : List S24) : ∀ (d : Nat) (x : S27), ask3 l0 l1 d x = 0 ∨ ask3 l0 l1 d x = 1 ∨ ask3 l0 l1 d x = 2
  | 0, x => .inl rfl
  | d + 1, x => by
    have tr : ∀ b, truthI b = 0 ∨ truthI b = 1 ∨ truthI b = 2 := fun b => by cases b <;> simp [truthI]
    rw [ask3]
    split
    · have ih := ask3_range l0 l1 d (rd_T27 x.f6 0)
      unfold not3
      split
      · exact .inr (.inr rfl)
      · rw [wrap_in (by omega) (by omega)]; omega
    · split
      · exact loop3_range _ _ _ (by omega) (by omega)
      · split
        · exact loop3_range _ _ _ (by omega) (by omega)
        · split
          · exact .inr (.inl rfl)
          · unfold simpV leafE
            repeat' (first | exact tr _ | exact .inr (.inl rfl) | exact .inr (.inr rfl) | split)
theorem row_zero (l0 : List S64) (l1 : List S24) (x : S27) (a : Int) (k : Nat) (h : eval_Row.f k l0 x.f0 x.f1 x.f2 x.f3.f0 x.f3.f1 x.f3.f2 x.f4 x.f5 x.f6 l1 = some (a, 0)) :
    ∃ k', eval_asker_ask.f k' l0 l1 x.f0 x.f1 x.f2 x.f3.f0 x.f3.f1 x.f3.f2 x.f4 x.f5 x.f6 = some a := by
  unfold eval_Row.f at h
  simp only [pred_Fits.f, Option.bind_some] at h
  split at h
  · obtain ⟨t, _, h⟩ := Option.bind_eq_some_iff.1 h
    split at h
    · obtain ⟨t, ht, h⟩ := Option.bind_eq_some_iff.1 h
      simp only [Option.some.injEq, Prod.mk.injEq] at h
      exact ⟨k, by rw [ht, h.1]⟩
    · simp at h
  · rename_i h0
    simp only [Option.some.injEq, Prod.mk.injEq] at h
    exact absurd h.2 h0
theorem nots (l0 : List S64) (l1 : List S24) (x : S27) (hl : l0.length ≤ 9223372036854775806) (hL : Lens 6 x) (a b : Int) (k k' : Nat)
    (ha : eval_Row.f k l0 x.f0 x.f1 x.f2 x.f3.f0 x.f3.f1 x.f3.f2 x.f4 x.f5 x.f6 l1 = some (a, 0)) (hb : eval_Row.f k' l0 5 ⟨#[]⟩ 0 false 0 ⟨#[]⟩ 0 ⟨#[]⟩ [x] l1 = some (b, 0)) :
    (a = 0 ∨ a = 1 ∨ a = 2) ∧ b = if a = 2 then 2 else 1 - a := by
  have ra : a = 0 ∨ a = 1 ∨ a = 2 := by
    obtain ⟨r', ⟨k0, hk0⟩, hr'⟩ := row20 l0 l1 x hl hL
    have h1 := at_rounds (fun k => eval_Row.mono l0 x.f0 x.f1 x.f2 x.f3.f0 x.f3.f1 x.f3.f2 x.f4 x.f5 x.f6 l1 k) (Nat.le_max_left k k0) ha
    have h2 := hk0 (max k k0) (Nat.le_max_right k k0)
    simp only at h2
    rw [h1] at h2
    have := Option.some.inj h2
    subst this
    have := hr' rfl
    simp only at this
    rw [this]
    exact ask3_range l0 l1 6 x
  refine ⟨ra, ?_⟩
  obtain ⟨m, hm⟩ := row_zero l0 l1 x a k ha
  obtain ⟨m', hm'⟩ := row_zero l0 l1 (notP x) b k' hb
  cases m' with
  | zero => simp [eval_asker_ask.f] at hm'
  | succ m' =>
    simp only [eval_asker_ask.f, notP] at hm'
    rw [if_pos (by simp)] at hm'
    obtain ⟨t, ht, hm'⟩ := Option.bind_eq_some_iff.1 hm'
    have hx : rd_T27 [x] 0 = x := rfl
    rw [hx] at ht
    have e1 := at_rounds (fun k => eval_asker_ask.mono l0 l1 x.f0 x.f1 x.f2 x.f3.f0 x.f3.f1 x.f3.f2 x.f4 x.f5 x.f6 k) (Nat.le_max_left m m') hm
    have e2 := at_rounds (fun k => eval_asker_ask.mono l0 l1 x.f0 x.f1 x.f2 x.f3.f0 x.f3.f1 x.f3.f2 x.f4 x.f5 x.f6 k) (Nat.le_max_right m m') ht
    rw [e1] at e2
    injection e2 with e2
    subst e2
    rw [not3_f, Option.bind_some] at hm'
    have := Option.some.inj hm'
    rw [← this, not3]
    split
    · rfl
    · rw [wrap_in (by omega) (by omega)]
theorem small10 (x : List S24) (hl : x.length ≤ 9223372036854775806) : TotP (fun _ => True) (fun k => firkinlaw10_Small.f k x) := by
  unfold firkinlaw10_Small.f
  have out : ∀ i : Int, TotP (fun _ => True) (fun k => firkinlaw10_Small.j1 k x i false) := by
    intro i
    refine TotP.succ (fun k => by simp only [firkinlaw10_Small.j1]; rfl) ?_
    exact TotP.ite (fun h => by cases h) (fun _ => TotP.some_ trivial)
  have key : ∀ (n i : Nat), i + n = x.length → TotP (fun _ => True) (fun k => firkinlaw10_Small.l0 k x (i : Int)) := by
    intro n
    induction n with
    | zero =>
      intro i hi
      refine TotP.succ (fun k => by simp only [firkinlaw10_Small.l0]; rfl) ?_
      exact TotP.ite (fun h => absurd h (by omega)) (fun _ => out _)
    | succ n ih =>
      intro i hi
      refine TotP.succ (fun k => by simp only [firkinlaw10_Small.l0]; rfl) ?_
      refine TotP.ite (fun _ => ?_) (fun h => absurd (by omega) h)
      refine TotP.succ (fun k => by simp only [firkinlaw10_Small.j1]; rfl) ?_
      refine TotP.ite (fun _ => ?_) (fun _ => TotP.some_ trivial)
      refine TotP.ite (fun _ => ?_) (fun h => absurd (by omega) h)
      refine TotP.ite (fun _ => ?_) (fun h => absurd (by omega) h)
      refine TotP.ite (fun _ => TotP.some_ trivial) (fun _ => ?_)
      rw [wrap_in (by omega) (by omega), show (i : Int) + 1 = ((i + 1 : Nat) : Int) by omega]
      exact ih (i + 1) (by omega)
  simpa using key x.length 0 (by omega)
theorem small13 (l0 : List S64) (l1 : List (List S24)) (hl0 : l0.length ≤ 9223372036854775807) (hl1 : l1.length ≤ 9223372036854775807) :
    TotP (fun r => r = true → l0.length ≤ 20 ∧ l1.length ≤ 210) (fun k => firkinlaw13_Small.f k l0 l1) := by
  unfold firkinlaw13_Small.f
  have last : TotP (fun r => r = true → l0.length ≤ 20 ∧ l1.length ≤ 210) (fun k => (firkinlaw12_Small.f k l0).bind fun t => if t = true then some (decide ((l1.length : Int) ≤ 210)) else some false) := by
    refine TotP.bind (small12 l0 hl0) (fun t ht => ?_)
    refine TotP.ite (fun h => TotP.some_ (fun h2 => ⟨(ht h).1, ?_⟩)) (fun _ => TotP.some_ (fun h => by cases h))
    have := of_decide_eq_true h2
    omega
  have key : ∀ (n i : Nat), i + n = l1.length → TotP (fun r => r = true → l0.length ≤ 20 ∧ l1.length ≤ 210) (fun k => firkinlaw13_Small.l0 k l0 l1 (i : Int)) := by
    intro n
    induction n with
    | zero =>
      intro i hi
      refine TotP.succ (fun k => by simp only [firkinlaw13_Small.l0]; rfl) ?_
      refine TotP.ite (fun h => absurd h (by omega)) (fun _ => ?_)
      refine TotP.succ (fun k => by simp only [firkinlaw13_Small.j1]; rfl) ?_
      exact TotP.ite (fun h => by cases h) (fun _ => last)
    | succ n ih =>
      intro i hi
      refine TotP.succ (fun k => by simp only [firkinlaw13_Small.l0]; rfl) ?_
      refine TotP.ite (fun _ => ?_) (fun h => absurd (by omega) h)
      refine TotP.succ (fun k => by simp only [firkinlaw13_Small.j1]; rfl) ?_
      refine TotP.ite (fun _ => ?_) (fun _ => last)
      refine TotP.ite (fun _ => ?_) (fun h => absurd (by omega) h)
      refine TotP.ite (fun _ => ?_) (fun h => absurd (by omega) h)
      refine TotP.ite (fun _ => TotP.some_ (fun h => by cases h)) (fun hle => ?_)
      refine TotP.bind (small10 _ (by omega)) (fun t _ => ?_)
      refine TotP.ite (fun _ => ?_) (fun _ => TotP.some_ (fun h => by cases h))
      rw [wrap_in (by omega) (by omega), show (i : Int) + 1 = ((i + 1 : Nat) : Int) by omega]
      exact ih (i + 1) (by omega)
  simpa using key l1.length 0 (by omega)
end Go.Proofs.Ytdedmhmomoejkaa.X
namespace Go.Proofs.Ytdedmhmomoejkaa.X
open Go.RowKit Go.Proofs.YtdedmhmomoejkaaW.PrintWords Go.Proofs.YtdedmhmomoejkaaW.PrintLast
set_option linter.unusedVariables false
set_option linter.unusedSimpArgs false
def kidP (op : Int) (ks : List S27) : S27 := ⟨op, ⟨#[]⟩, 0, ⟨false, 0, ⟨#[]⟩⟩, 0, ⟨#[]⟩, ks⟩
theorem joins (l0 : List S64) (l1 : List S24) (p q : S27) (k : Int) (hk : k = 0 ∨ k = 1) :
    ask3 l0 l1 6 (kidP 5 [kidP (6 + k) [p, q]]) = ask3 l0 l1 6 (kidP (7 - k) [kidP 5 [p], kidP 5 [q]]) := by
  have hp := ask3_range l0 l1 4 p
  have hq := ask3_range l0 l1 4 q
  have e1 : ∀ ks, rd_T27 [kidP (6 + k) ks] 0 = kidP (6 + k) ks := fun _ => rfl
  have e2 : ∀ x : S27, rd_T27 [x] 0 = x := fun _ => rfl
  have n0 : not3 0 = 1 := by rw [not3, if_neg (by decide), wrap_in (by omega) (by omega)]; rfl
  have n1 : not3 1 = 0 := by rw [not3, if_neg (by decide), wrap_in (by omega) (by omega)]; rfl
  have n2 : not3 2 = 2 := by rw [not3, if_pos rfl]
  have hn : ∀ x : S27, ask3 l0 l1 5 (kidP 5 [x]) = not3 (ask3 l0 l1 4 x) := fun x => by rw [ask3]; rw [if_pos (show (kidP 5 [x]).f0 = 5 from rfl)]; rfl
  have ha : ask3 l0 l1 6 (kidP 5 [kidP (6 + k) [p, q]]) = not3 (ask3 l0 l1 5 (kidP (6 + k) [p, q])) := by rw [ask3]; rw [if_pos (show (kidP 5 [kidP (6 + k) [p, q]]).f0 = 5 from rfl)]; rfl
  rw [ha]
  rcases hk with rfl | rfl
  · have h1 : ask3 l0 l1 5 (kidP (6 + 0) [p, q]) = loop3 0 1 [ask3 l0 l1 4 p, ask3 l0 l1 4 q] := by
      rw [ask3, if_neg (show ¬ (kidP (6 + 0) [p, q]).f0 = 5 by show ¬ (6 + 0 : Int) = 5; decide), if_pos (show (kidP (6 + 0) [p, q]).f0 = 6 from rfl)]; rfl
    have h2 : ask3 l0 l1 6 (kidP (7 - 0) [kidP 5 [p], kidP 5 [q]]) = loop3 1 0 [ask3 l0 l1 5 (kidP 5 [p]), ask3 l0 l1 5 (kidP 5 [q])] := by
      rw [ask3, if_neg (show ¬ (kidP (7 - 0) [kidP 5 [p], kidP 5 [q]]).f0 = 5 by show ¬ (7 - 0 : Int) = 5; decide), if_neg (show ¬ (kidP (7 - 0) [kidP 5 [p], kidP 5 [q]]).f0 = 6 by show ¬ (7 - 0 : Int) = 6; decide), if_pos (show (kidP (7 - 0) [kidP 5 [p], kidP 5 [q]]).f0 = 7 from rfl)]; rfl
    rw [h1, h2, hn, hn]
    rcases hp with h | h | h <;> rcases hq with h' | h' | h' <;> (rw [h, h']; simp [loop3, n0, n1, n2])
  · have h1 : ask3 l0 l1 5 (kidP (6 + 1) [p, q]) = loop3 1 0 [ask3 l0 l1 4 p, ask3 l0 l1 4 q] := by
      rw [ask3, if_neg (show ¬ (kidP (6 + 1) [p, q]).f0 = 5 by show ¬ (6 + 1 : Int) = 5; decide), if_neg (show ¬ (kidP (6 + 1) [p, q]).f0 = 6 by show ¬ (6 + 1 : Int) = 6; decide), if_pos (show (kidP (6 + 1) [p, q]).f0 = 7 from rfl)]; rfl
    have h2 : ask3 l0 l1 6 (kidP (7 - 1) [kidP 5 [p], kidP 5 [q]]) = loop3 0 1 [ask3 l0 l1 5 (kidP 5 [p]), ask3 l0 l1 5 (kidP 5 [q])] := by
      rw [ask3, if_neg (show ¬ (kidP (7 - 1) [kidP 5 [p], kidP 5 [q]]).f0 = 5 by show ¬ (7 - 1 : Int) = 5; decide), if_pos (show (kidP (7 - 1) [kidP 5 [p], kidP 5 [q]]).f0 = 6 from rfl)]; rfl
    rw [h1, h2, hn, hn]
    rcases hp with h | h | h <;> rcases hq with h' | h' | h' <;> (rw [h, h']; simp [loop3, n0, n1, n2])
end Go.Proofs.Ytdedmhmomoejkaa.X
namespace Go.Proofs.Ytdedmhmomoejkaa.X
open Go.RowKit Go.Proofs.YtdedmhmomoejkaaW.PrintWords Go.Proofs.YtdedmhmomoejkaaW.PrintLast Go.Proofs.YtdedmhmomoejkaaW.PrintMore
attribute [local go_sem] max2_int max_two
set_option linter.unusedVariables false
set_option linter.unusedSimpArgs false
theorem live20_at (w : World) : Calls Try.prog 21 #[] w fun e w' => e = .returned (.bool true) ∧ Below w.heap.size w w' := firkinlaw20_live.calls 60 true w live20
theorem one27n {W : World} {x : S27} {A8 : Option Addr} {c8 g : Nat} {T : TypeId} (hr : Kd.C k27 W A8 x.f6.length x.f6) (hc : x.f6.length ≤ c8)
    (hg : W.heap[g]? = some (.cells #[.int .i64 x.f0, .string x.f1, .int .i64 x.f2, .bool x.f3.f0, .int .i64 x.f3.f1, .string x.f3.f2, .int .i64 x.f4, .string x.f5, .slice A8 x.f6.length c8] T (0, 0))) : Kd.C k27 W (some ⟨g, 0, none⟩) [x].length [x] := by
  refine ⟨rfl, by simp, fun _ => ⟨_, rfl, fun j p hp => ?_⟩⟩
  cases j with
  | zero =>
    have e : x = p := by simpa using hp
    subst e
    refine ⟨_, ?_, k27_mk W x hc hr, fun i u hu => ?_⟩
    · rfl
    · rw [show (Addr.add ⟨g, 0, none⟩ (0 * k27.sz + i)) = ⟨g, i, none⟩ by simp only [Addr.add, Nat.zero_mul, Nat.zero_add]; split <;> simp_all, cell_of_row W g i _ T (0, 0) hg]
      simpa [eq_comm] using hu
  | succ j => simp at hp
def NotsPost (w : World) : Ending → World → Prop := fun e w' => e = .returned (.bool true) ∧ Below w.heap.size w w'
def nt6.T : Bool × List (List Nat × List Nat) := (true, [([], []), ([], []), ([], []), ([], []), ([2, 3], [2, 3]), ([4], [4]), ([0, 1, 5], [0, 1, 5]), ([6], [6]), ([7], [7]), ([7], [7]), ([8, 6, 0, 1, 2, 3, 4, 5, 6, 7, 8], [8]), ([9, 10, 0, 1, 2, 3, 4, 5, 6, 7, 8, 9, 10], [9])])
def nt6.B : List Nat := [0, 0, 0, 0, 12, 28, 63, 127, 255, 255, 511, 2047]
theorem nt6.tab : rtab .any (opsOf Try.f6 6) = nt6.T := by kernel_rfl
theorem nt6.bits : waitsOk nt6.T.2 nt6.B = true := by kernel_rfl
def nt7.T : Bool × List (List Nat × List Nat) := (true, [([], []), ([], []), ([1], [1]), ([2], [2]), ([], []), ([], []), ([4, 5], [4, 5]), ([6], [6]), ([0, 3, 7], [0, 3, 7]), ([8], [8]), ([9], [9]), ([9], [9]), ([10, 8, 0, 1, 2, 3, 4, 5, 6, 7, 8, 9, 10], [10]), ([11, 12, 0, 1, 2, 3, 4, 5, 6, 7, 8, 9, 10, 11, 12], [11])])
def nt7.B : List Nat := [0, 0, 2, 6, 0, 0, 48, 112, 255, 511, 1023, 1023, 2047, 8191]
theorem nt7.tab : rtab .any (opsOf Try.f6 7) = nt7.T := by kernel_rfl
theorem nt7.bits : waitsOk nt7.T.2 nt7.B = true := by kernel_rfl
set_option maxHeartbeats 8000000 in
set_option maxRecDepth 100000 in
theorem evalNots.calls (A0 : Option Addr) (c0 : Nat) (l0 : List S64) (x : S27) (A8 : Option Addr) (c8 : Nat) (A2 : Option Addr) (c2 : Nat) (l2 : List (List S24)) (w : World)
    (hr0 : Kd.C k64 w A0 l0.length l0) (hc0 : l0.length ≤ c0) (hr8 : Kd.C k27 w A8 x.f6.length x.f6) (hc8 : x.f6.length ≤ c8) (hr2 : Kd.C (Kd.slice 24 k24) w A2 l2.length l2) (hc2 : l2.length ≤ c2) :
    Calls Try.prog 6 #[.slice A0 l0.length c0, .agg #[.int .i64 x.f0, .string x.f1, .int .i64 x.f2, .bool x.f3.f0, .int .i64 x.f3.f1, .string x.f3.f2, .int .i64 x.f4, .string x.f5, .slice A8 x.f6.length c8], .slice A2 l2.length c2] w (NotsPost w) := by
  have hu27 := Try.underlying27
  obtain ⟨r13, ⟨k13, h13⟩, hS⟩ := small13 l0 l2 (Kd.C_max hr0) (Kd.C_max hr2)
  obtain ⟨r17, ⟨k17, h17⟩, hlens⟩ := small17 9 x (by omega)
  have HR0 := Aside0.mk hr0
  have HC0 := Aside0.mk hc0
  have HR8 := Aside0.mk hr8
  have HC8 := Aside0.mk hc8
  have HR2 := Aside0.mk hr2
  have HC2 := Aside0.mk hc2
  have HB := Aside0.mk (below_alloc (Below.refl w.heap.size w) (.cells #[.int .i64 x.f0, .string x.f1, .int .i64 x.f2, .bool x.f3.f0, .int .i64 x.f3.f1, .string x.f3.f2, .int .i64 x.f4, .string x.f5, .slice A8 x.f6.length c8] 27))
  have BK := Aside0.mk (heap_alloc_new w (.cells #[.int .i64 x.f0, .string x.f1, .int .i64 x.f2, .bool x.f3.f0, .int .i64 x.f3.f1, .string x.f3.f2, .int .i64 x.f4, .string x.f5, .slice A8 x.f6.length c8] 27))
  have S13 : Aside0 (∀ W, Below w.heap.size w W → Calls Try.prog 16 #[.slice A0 l0.length c0, .slice A2 l2.length c2] W fun e w' => e = .returned (.bool r13) ∧ Drawn0 W w') :=
    ⟨fun W hW => firkinlaw13_Small.calls k13 A0 c0 l0 A2 c2 l2 r13 W (Kd.C_below hr0 hW) hc0 (Kd.C_below hr2 hW) hc2 (h13 k13 (Nat.le_refl _))⟩
  have S17 : Aside0 (∀ W, Below w.heap.size w W → Calls Try.prog 10 #[.agg #[.int .i64 x.f0, .string x.f1, .int .i64 x.f2, .bool x.f3.f0, .int .i64 x.f3.f1, .string x.f3.f2, .int .i64 x.f4, .string x.f5, .slice A8 x.f6.length c8], .int .i64 9] W fun e w' => e = .returned (.bool r17) ∧ Below W.heap.size W w') :=
    ⟨fun W hW => firkinref17_Small.calls k17 x.f0 x.f1 x.f2 x.f3.f0 x.f3.f1 x.f3.f2 x.f4 x.f5 A8 c8 x.f6 9 r17 W (Kd.C_below hr8 hW) hc8 (h17 k17 (Nat.le_refl _))⟩
  have HL := Aside0.mk hlens
  have HS13 := Aside0.mk hS
  clear hr0 hc0 hr8 hc8 hr2 hc2 h13 h17 hS hlens
  obtain ⟨Q, hQ⟩ : ∃ Q, Q = NotsPost w := ⟨_, rfl⟩
  rw [← hQ]
  have HQ := Aside0.mk hQ
  clear hQ
  cases r13 with
  | false =>
    go_enter Try.func6, Try.ntmps6
    go_wp2_with fail
    refine (S13.out _ HB.out).mono ?_
    rintro e w1 ⟨rfl, hd⟩
    have HB1 := Aside0.mk (below_step HB.out hd.below)
    clear hd HB
    go_wp2_with fail
    refine (live20_at w1).mono ?_
    rintro e wz ⟨rfl, hb⟩
    have HZ := Aside0.mk (below_step HB1.out hb)
    clear hb
    go_wp2
    rw [HQ.out]
    exact ⟨rfl, HZ.out⟩
  | true =>
    cases r17 with
    | false =>
      go_enter Try.func6, Try.ntmps6
      go_wp2_with fail
      refine (S13.out _ HB.out).mono ?_
      rintro e w1 ⟨rfl, hd⟩
      have BK1 := Aside0.mk (blk_below BK.out hd.below)
      have HB1 := Aside0.mk (below_step HB.out hd.below)
      clear hd HB BK
      obtain ⟨hz0, hz1, hz2, hz3, hz4, hz5, hz6, hz7, hz8⟩ := cz9_ BK1.out
      go_wp2_with fail
      refine (S17.out _ HB1.out).mono ?_
      rintro e w2 ⟨rfl, hb⟩
      have HB2 := Aside0.mk (below_step HB1.out hb)
      clear hb HB1 hz0 hz1 hz2 hz3 hz4 hz5 hz6 hz7 hz8
      go_wp2_with fail
      refine (live20_at w2).mono ?_
      rintro e wz ⟨rfl, hb⟩
      have HZ := Aside0.mk (below_step HB2.out hb)
      clear hb
      go_wp2
      rw [HQ.out]
      exact ⟨rfl, HZ.out⟩
    | true =>
      have hl20 := (HS13.out rfl).1
      have hl210 := (HS13.out rfl).2
      have hL6 := Aside0.mk (Lens.le 6 9 x (by omega) (HL.out rfl))
      have hLn : Aside0 (Lens 6 (notP x)) := ⟨by simp [notP], fun y hy => by
        have e : y = x := by simpa [notP] using hy
        rw [e]; exact Lens.le 5 9 x (by omega) (HL.out rfl)⟩
      go_enter Try.func6, Try.ntmps6
      go_wp2_with fail
      refine (S13.out _ HB.out).mono ?_
      rintro e w1 ⟨rfl, hd⟩
      have BK1 := Aside0.mk (blk_below BK.out hd.below)
      have HB1 := Aside0.mk (below_step HB.out hd.below)
      clear hd HB BK
      obtain ⟨hz0, hz1, hz2, hz3, hz4, hz5, hz6, hz7, hz8⟩ := cz9_ BK1.out
      go_wp2_with fail
      refine (S17.out _ HB1.out).mono ?_
      rintro e w2 ⟨rfl, hb⟩
      have BK2 := Aside0.mk (blk_below BK1.out hb)
      have HB2 := Aside0.mk (below_step HB1.out hb)
      clear hb HB1 BK1 hz0 hz1 hz2 hz3 hz4 hz5 hz6 hz7 hz8
      go_wp2
      go_loopg [7] l2.length (fun gk v7 wr => ∃ kk : Nat, kk ≤ l2.length ∧ l2.length - kk ≤ gk ∧ v7 = .int .i64 kk ∧ Aside0 (Below w.heap.size w wr) ∧ Aside0 (wr.heap[w.heap.size]? = some (.cells #[.int .i64 x.f0, .string x.f1, .int .i64 x.f2, .bool x.f3.f0, .int .i64 x.f3.f1, .string x.f3.f2, .int .i64 x.f4, .string x.f5, .slice A8 x.f6.length c8] 27 (0, 0))))
      case atStart => exact ⟨0, Nat.zero_le _, by omega, rfl, HB2, BK2⟩
      case round =>
        obtain ⟨kk, hkk, hg, rfl, BW, BKW⟩ := hrel
        clear HB2 BK2
        by_cases hlt : kk < l2.length
        · have hltz : (kk : Int) < (l2.length : Int) := by omega
          obtain ⟨ad2, Ar, cr, e, g0, hcr, hrr⟩ := at_L8 (Kd.C_below HR2.out BW.out) (kk : Int) (by omega) (by omega)
          cases e
          simp only [Int.toNat_natCast] at g0
          obtain ⟨⟨a, ea⟩, ⟨k1, h1⟩, hra⟩ := row20 l0 (rd_L8 l2 (kk : Int)) x (by omega) hL6.out
          obtain ⟨⟨b, eb⟩, ⟨k2, h2⟩, hrb⟩ := row20 l0 (rd_L8 l2 (kk : Int)) (notP x) (by omega) hLn.out
          have h1 := h1 k1 (Nat.le_refl _)
          have h2 := h2 k2 (Nat.le_refl _)
          have NT : Aside0 (ea = 0 → eb = 0 → (a = 0 ∨ a = 1 ∨ a = 2) ∧ b = if a = 2 then 2 else 1 - a) := ⟨fun e1 e2 => by
            subst e1 e2
            exact nots l0 (rd_L8 l2 (kk : Int)) x (by omega) hL6.out a b k1 k2 h1 h2⟩
          have RA : Aside0 (∀ W, Below wr.heap.size wr W → Calls Try.prog 22 #[.slice A0 l0.length c0, .agg #[.int .i64 x.f0, .string x.f1, .int .i64 x.f2, .bool x.f3.f0, .int .i64 x.f3.f1, .string x.f3.f2, .int .i64 x.f4, .string x.f5, .slice A8 x.f6.length c8], .slice Ar (rd_L8 l2 (kk : Int)).length cr] W fun e w' => e = .returned (.tuple #[.int .i64 a, .int .i64 ea]) ∧ Below W.heap.size W w') :=
            ⟨fun W hW => eval_Row.calls k1 A0 c0 l0 x.f0 x.f1 x.f2 x.f3.f0 x.f3.f1 x.f3.f2 x.f4 x.f5 A8 c8 x.f6 Ar cr (rd_L8 l2 (kk : Int)) a ea W (Kd.C_below (Kd.C_below HR0.out BW.out) hW) HC0.out (Kd.C_below (Kd.C_below HR8.out BW.out) hW) HC8.out (Kd.C_below hrr hW) hcr h1⟩
          have RB : Aside0 (∀ W g T, Below wr.heap.size wr W → W.heap[g]? = some (.cells #[.int .i64 x.f0, .string x.f1, .int .i64 x.f2, .bool x.f3.f0, .int .i64 x.f3.f1, .string x.f3.f2, .int .i64 x.f4, .string x.f5, .slice A8 x.f6.length c8] T (0, 0)) → Calls Try.prog 22 #[.slice A0 l0.length c0, .agg #[.int .i64 5, .string ⟨#[]⟩, .int .i64 0, .bool false, .int .i64 0, .string ⟨#[]⟩, .int .i64 0, .string ⟨#[]⟩, .slice (some ⟨g, 0, none⟩) 1 1], .slice Ar (rd_L8 l2 (kk : Int)).length cr] W fun e w' => e = .returned (.tuple #[.int .i64 b, .int .i64 eb]) ∧ Below W.heap.size W w') :=
            ⟨fun W g T hW hg => eval_Row.calls k2 A0 c0 l0 5 ⟨#[]⟩ 0 false 0 ⟨#[]⟩ 0 ⟨#[]⟩ (some ⟨g, 0, none⟩) 1 [x] Ar cr (rd_L8 l2 (kk : Int)) b eb W (Kd.C_below (Kd.C_below HR0.out BW.out) hW) HC0.out (one27n (Kd.C_below (Kd.C_below HR8.out BW.out) hW) HC8.out hg) (by simp) (Kd.C_below hrr hW) hcr h2⟩
          clear h1 h2 hra hrb hrr hcr
          generalize rd_L8 l2 (kk : Int) = r at g0 RA RB
          have hz0 := (blk_cell BKW.out 0)
          clear hz0
          go_wp2_with fail
          refine start_ (n := 12) (S := (fun wX => Below wr.heap.size wr wX ∧ wX.heap[w.heap.size]? = some (.cells #[.int .i64 x.f0, .string x.f1, .int .i64 x.f2, .bool x.f3.f0, .int .i64 x.f3.f1, .string x.f3.f2, .int .i64 x.f4, .string x.f5, .slice A8 x.f6.length c8] 27 (0, 0)) ∧ wX.cell? (ad2.add kk) = some (.slice Ar r.length cr))) (ds := []) #[false, false, false, false, false, false, false, false, false, false, false, false] (by kernel_rfl) rfl rfl ⟨below_drew1 (Below.refl _ _), blk_drew BKW.out, g0⟩ (fun HS => ?_)
          refine with_tabW nt6.tab nt6.bits (fun HT_ HW_ => ?_)
          generalize wr.drew = w3 at HS ⊢
          refine pu_ 0 (some 29) (bl_ 12 1) ?_
          refine pu_ 2 (some 31) (bl_ 12 5) ?_
          refine pu_ 3 (some 32) (bl_ 12 13) ?_
          refine pu_ 4 (some 33) (bl_ 12 29) ?_
          refine take_ (i := 1) (N := some 30) (v := ?_) (a' := ?_) (bl_ 12 31) rfl rfl (take_ofW HT_.out HW_.out (by kernel_rfl)) (fun _ _ _ h => h) (Or.inl ⟨by rfl, ?_⟩) HS ?_ ?_; rotate_left
          · rintro w' ⟨sB, sK, sT⟩; obtain ⟨hz0, hz1, hz2, hz3, hz4, hz5, hz6, hz7, hz8⟩ := cz9_ sK; go_simp; with_reducible rfl
          rotate_left
          · simp only [Act.put, List.setIfInBounds_toArray, List.set_cons_zero, List.set_cons_succ, i64_w, i32_w]; rfl
          refine take_ (i := 5) (N := some 34) (v := ?_) (a' := ?_) (bl_ 12 63) rfl rfl (take_ofW HT_.out HW_.out (by kernel_rfl)) (fun _ _ _ h => h) (Or.inl ⟨by rfl, ?_⟩) HS ?_ ?_; rotate_left
          · rintro w' ⟨sB, sK, sT⟩; obtain ⟨hz0, hz1, hz2, hz3, hz4, hz5, hz6, hz7, hz8⟩ := cz9_ sK; go_simp; with_reducible rfl
          rotate_left
          · simp only [Act.put, List.setIfInBounds_toArray, List.set_cons_zero, List.set_cons_succ, i64_w, i32_w]; rfl
          refine one_ (i := 6) (N := some 35) (bl_ 12 127) rfl rfl (one_of HT_.out (by kernel_rfl)) (by decide) (fun K hK => ?_)
          refine gs_ Try.func22 #[.slice A0 l0.length c0, .agg #[.int .i64 x.f0, .string x.f1, .int .i64 x.f2, .bool x.f3.f0, .int .i64 x.f3.f1, .string x.f3.f2, .int .i64 x.f4, .string x.f5, .slice A8 x.f6.length c8], .slice Ar r.length cr] ?_
          refine (RA.out _ HS.1).mono ?_
          rintro e w4 ⟨rfl, hb⟩
          refine ⟨_, rfl, ?_⟩
          obtain ⟨sB, sK, sT⟩ := HS
          refine hK.out _ _ ⟨below_step sB hb, blk_below sK hb, (hb.cell (World.block_lt_of_cell? _ _ sT)).trans sT⟩ (fun HS => ?_)
          clear hK K sB sK sT hb
          refine norm_ (a' := ?_) ?_ ?_; rotate_left
          · show Act.put _ (some 35) _ = _; simp only [Act.put, List.setIfInBounds_toArray, List.set_cons_zero, List.set_cons_succ, i64_w, i32_w]; rfl
          refine pu_ 7 (some 28) (bl_ 12 255) ?_
          refine pu_ 8 (some 36) (bl_ 12 511) ?_
          refine pu_ 9 (some 37) (bl_ 12 1023) ?_
          refine pu_ 10 (some 8) (bl_ 12 2047) ?_
          refine pu_ 11 (some 9) (bl_ 12 4095) ?_
          refine done_ (done_of HT_.out (by kernel_rfl)) ?_
          clear HT_ HW_
          go_wp2_with fail
          refine start_ (n := 14) (S := (fun wX => Below wr.heap.size wr wX ∧ wX.heap[w.heap.size]? = some (.cells #[.int .i64 x.f0, .string x.f1, .int .i64 x.f2, .bool x.f3.f0, .int .i64 x.f3.f1, .string x.f3.f2, .int .i64 x.f4, .string x.f5, .slice A8 x.f6.length c8] 27 (0, 0)) ∧ wX.cell? (ad2.add kk) = some (.slice Ar r.length cr))) (ds := []) #[false, false, false, false, false, false, false, false, false, false, false, false, false, false] (by kernel_rfl) rfl rfl ⟨below_drew1 HS.1, blk_drew HS.2.1, HS.2.2⟩ (fun HS => ?_)
          refine with_tabW nt7.tab nt7.bits (fun HT_ HW_ => ?_)
          generalize w4.drew = w5 at *
          refine pu_ 0 (some 39) (bl_ 14 1) ?_
          refine pu_ 4 (some 43) (bl_ 14 17) ?_
          refine pu_ 5 (some 44) (bl_ 14 49) ?_
          refine pu_ 6 (some 45) (bl_ 14 113) ?_
          refine take_ (i := 1) (N := some 40) (v := ?_) (a' := ?_) (bl_ 14 115) rfl rfl (take_ofW HT_.out HW_.out (by kernel_rfl)) (fun _ _ _ h => h) (Or.inl ⟨by rfl, ?_⟩) HS ?_ ?_; rotate_left
          · rintro w' ⟨sB, sK, sT⟩; obtain ⟨hz0, hz1, hz2, hz3, hz4, hz5, hz6, hz7, hz8⟩ := cz9_ sK; go_simp; with_reducible rfl
          rotate_left
          · simp only [Act.put, List.setIfInBounds_toArray, List.set_cons_zero, List.set_cons_succ, i64_w, i32_w]; rfl
          refine take_ (i := 7) (N := some 46) (v := ?_) (a' := ?_) (bl_ 14 243) rfl rfl (take_ofW HT_.out HW_.out (by kernel_rfl)) (fun _ _ _ h => h) (Or.inl ⟨by rfl, ?_⟩) HS ?_ ?_; rotate_left
          · rintro w' ⟨sB, sK, sT⟩; obtain ⟨hz0, hz1, hz2, hz3, hz4, hz5, hz6, hz7, hz8⟩ := cz9_ sK; go_simp; with_reducible rfl
          rotate_left
          · simp only [Act.put, List.setIfInBounds_toArray, List.set_cons_zero, List.set_cons_succ, i64_w, i32_w]; rfl
          refine one_ (i := 2) (N := some 41) (bl_ 14 247) rfl rfl (one_of HT_.out (by kernel_rfl)) (by decide) (fun K hK => ?_)
          refine value_ (w1 := ?_) (v := ?_) (by rfl) rfl ?_ ?_
          rotate_left 2
          · go_simp
            constructor
            · rfl
            · rfl
          obtain ⟨sB, sK, sT⟩ := HS
          refine hK.out _ _ ⟨below_alloc sB _, blk_alloc sK _, (Below.cell (below_alloc (Below.refl _ _) _) (World.block_lt_of_cell? _ _ sT)).trans sT⟩ (fun HS => ?_)
          clear hK K sK sT
          refine norm_ (a' := ?_) ?_ ?_; rotate_left
          · show Act.put _ (some 41) _ = _; simp only [Act.put, List.setIfInBounds_toArray, List.set_cons_zero, List.set_cons_succ, i64_w, i32_w]; rfl
          refine pu_ 3 (some 42) (bl_ 14 255) ?_
          refine one_ (i := 8) (N := some 47) (bl_ 14 511) rfl rfl (one_of HT_.out (by kernel_rfl)) (by decide) (fun K hK => ?_)
          refine gs_ Try.func22 #[.slice A0 l0.length c0, .agg #[.int .i64 5, .string ⟨#[]⟩, .int .i64 0, .bool false, .int .i64 0, .string ⟨#[]⟩, .int .i64 0, .string ⟨#[]⟩, .slice (some ⟨w5.heap.size, 0, none⟩) 1 1], .slice Ar r.length cr] ?_
          refine (RB.out _ _ _ HS.1 (heap_alloc_new _ _)).mono ?_
          rintro e w6 ⟨rfl, hb⟩
          refine ⟨_, rfl, ?_⟩
          obtain ⟨sB, sK, sT⟩ := HS
          refine hK.out _ _ ⟨below_step sB hb, blk_below sK hb, (hb.cell (World.block_lt_of_cell? _ _ sT)).trans sT⟩ (fun HS => ?_)
          clear hK K sB sK sT hb
          refine norm_ (a' := ?_) ?_ ?_; rotate_left
          · show Act.put _ (some 47) _ = _; simp only [Act.put, List.setIfInBounds_toArray, List.set_cons_zero, List.set_cons_succ, i64_w, i32_w]; rfl
          refine pu_ 9 (some 38) (bl_ 14 1023) ?_
          refine pu_ 10 (some 48) (bl_ 14 2047) ?_
          refine pu_ 11 (some 49) (bl_ 14 4095) ?_
          refine pu_ 12 (some 10) (bl_ 14 8191) ?_
          refine pu_ 13 (some 11) (bl_ 14 16383) ?_
          refine done_ (done_of HT_.out (by kernel_rfl)) ?_
          clear HT_ HW_
          have HB6 := Aside0.mk (below_step BW.out HS.1)
          have BK6 := Aside0.mk HS.2.1
          clear HS RA RB g0 BW BKW
          by_cases ha : ea = 0
          · have ha0 : (ea == 0) = true := beq_iff_eq.2 ha
            have HA := Aside0.mk ha
            clear ha
            by_cases hb : eb = 0
            · have hb0 : (eb == 0) = true := beq_iff_eq.2 hb
              obtain ⟨hr, hbv⟩ := NT.out HA.out hb
              clear hb NT
              rcases hr with rfl | rfl | rfl
              all_goals (simp only [Int.reduceEq, if_true, if_false, Int.reduceSub] at hbv; subst hbv)
              all_goals
                go_wp2_with fail
                refine (firkinlaw20_num.calls ea ea w6 rfl).mono ?_
                rintro e w7 ⟨rfl, hd⟩
                have HB7 := Aside0.mk (below_step HB6.out hd.below)
                have BK7 := Aside0.mk (blk_below BK6.out hd.below)
                clear hd
                go_wp2_with fail
                refine (firkinlaw20_num.calls eb eb w7 rfl).mono ?_
                rintro e w8 ⟨rfl, hd⟩
                have HB8 := Aside0.mk (below_step HB7.out hd.below)
                have BK8 := Aside0.mk (blk_below BK7.out hd.below)
                clear hd
                go_wp2_with fail
                refine (firkinlaw20_num.calls ea ea w8 rfl).mono ?_
                rintro e w9 ⟨rfl, hd⟩
                have HB9 := Aside0.mk (below_step HB8.out hd.below)
                have BK9 := Aside0.mk (blk_below BK8.out hd.below)
                clear hd
                go_wp2_with fail
                refine (firkinlaw20_num.calls eb eb w9 rfl).mono ?_
                rintro e w10 ⟨rfl, hd⟩
                have HB10 := Aside0.mk (below_step HB9.out hd.below)
                have BK10 := Aside0.mk (blk_below BK9.out hd.below)
                clear hd
                go_wp2
                go_roundg (l2.length - (kk + 1))
                case measure => omega
                case rel => exact ⟨kk + 1, by omega, by omega, (by first | (simp; done) | (simp; rw [wrap_in (by omega) (by omega)])), HB10, BK10⟩
            · have hb0 : (eb == 0) = false := beq_eq_false_iff_ne.2 hb
              clear hb NT
              go_wp2_with fail
              refine (firkinlaw20_num.calls ea ea w6 rfl).mono ?_
              rintro e w7 ⟨rfl, hd⟩
              have HB7 := Aside0.mk (below_step HB6.out hd.below)
              have BK7 := Aside0.mk (blk_below BK6.out hd.below)
              clear hd
              go_wp2_with fail
              refine (firkinlaw20_num.calls eb eb w7 rfl).mono ?_
              rintro e w8 ⟨rfl, hd⟩
              have HB8 := Aside0.mk (below_step HB7.out hd.below)
              have BK8 := Aside0.mk (blk_below BK7.out hd.below)
              clear hd
              go_wp2_with fail
              refine (firkinlaw20_num.calls ea ea w8 rfl).mono ?_
              rintro e w9 ⟨rfl, hd⟩
              have HB9 := Aside0.mk (below_step HB8.out hd.below)
              have BK9 := Aside0.mk (blk_below BK8.out hd.below)
              clear hd
              go_wp2_with fail
              refine (firkinlaw20_num.calls eb eb w9 rfl).mono ?_
              rintro e w10 ⟨rfl, hd⟩
              have HB10 := Aside0.mk (below_step HB9.out hd.below)
              have BK10 := Aside0.mk (blk_below BK9.out hd.below)
              clear hd
              go_wp2
              go_roundg (l2.length - (kk + 1))
              case measure => omega
              case rel => exact ⟨kk + 1, by omega, by omega, (by first | (simp; done) | (simp; rw [wrap_in (by omega) (by omega)])), HB10, BK10⟩
          · have ha0 : (ea == 0) = false := beq_eq_false_iff_ne.2 ha
            clear ha NT
            go_wp2_with fail
            refine (firkinlaw20_num.calls ea ea w6 rfl).mono ?_
            rintro e w7 ⟨rfl, hd⟩
            have HB7 := Aside0.mk (below_step HB6.out hd.below)
            have BK7 := Aside0.mk (blk_below BK6.out hd.below)
            clear hd
            go_wp2_with fail
            refine (firkinlaw20_num.calls ea ea w7 rfl).mono ?_
            rintro e w8 ⟨rfl, hd⟩
            have HB8 := Aside0.mk (below_step HB7.out hd.below)
            have BK8 := Aside0.mk (blk_below BK7.out hd.below)
            clear hd
            go_wp2
            go_roundg (l2.length - (kk + 1))
            case measure => omega
            case rel => exact ⟨kk + 1, by omega, by omega, (by first | (simp; done) | (simp; rw [wrap_in (by omega) (by omega)])), HB8, BK8⟩
        · have hltz : ¬ ((kk : Int) < (l2.length : Int)) := by omega
          go_wp2_with fail
          refine (live20_at wr).mono ?_
          rintro e wz ⟨rfl, hb⟩
          have HZ := Aside0.mk (below_step BW.out hb)
          clear hb
          go_wp2
          rw [HQ.out]
          exact ⟨rfl, HZ.out⟩
end Go.Proofs.Ytdedmhmomoejkaa.X
namespace Go.Proofs.Ytdedmhmomoejkaa.X
open Go.RowKit Go.Proofs.YtdedmhmomoejkaaW.PrintWords Go.Proofs.YtdedmhmomoejkaaW.PrintLast Go.Proofs.YtdedmhmomoejkaaW.PrintMore
set_option linter.unusedVariables false
set_option linter.unusedSimpArgs false
theorem two27 {W : World} {p q : S27} {A8 A9 : Option Addr} {c8 c9 g : Nat} {T : TypeId} (hp : Kd.C k27 W A8 p.f6.length p.f6) (hc8 : p.f6.length ≤ c8) (hq : Kd.C k27 W A9 q.f6.length q.f6) (hc9 : q.f6.length ≤ c9)
    (hg : W.heap[g]? = some (.cells #[.int .i64 p.f0, .string p.f1, .int .i64 p.f2, .bool p.f3.f0, .int .i64 p.f3.f1, .string p.f3.f2, .int .i64 p.f4, .string p.f5, .slice A8 p.f6.length c8, .int .i64 q.f0, .string q.f1, .int .i64 q.f2, .bool q.f3.f0, .int .i64 q.f3.f1, .string q.f3.f2, .int .i64 q.f4, .string q.f5, .slice A9 q.f6.length c9] T (0, 0))) : Kd.C k27 W (some ⟨g, 0, none⟩) [p, q].length [p, q] := by
  refine ⟨rfl, by simp, fun _ => ⟨_, rfl, fun j y hy => ?_⟩⟩
  have hsz : k27.sz = 9 := rfl
  cases j with
  | zero =>
    have e : p = y := by simpa using hy
    subst e
    refine ⟨_, ?_, k27_mk W p hc8 hp, fun i u hu => ?_⟩
    · rfl
    · rw [show (Addr.add ⟨g, 0, none⟩ (0 * k27.sz + i)) = ⟨g, i, none⟩ by simp only [Addr.add, Nat.zero_mul, Nat.zero_add]; split <;> simp_all, cell_of_row W g i _ T (0, 0) hg]
      have hi : i < 9 := (List.getElem?_eq_some_iff.1 hu).1
      have : i = 0 ∨ i = 1 ∨ i = 2 ∨ i = 3 ∨ i = 4 ∨ i = 5 ∨ i = 6 ∨ i = 7 ∨ i = 8 := by omega
      rcases this with rfl | rfl | rfl | rfl | rfl | rfl | rfl | rfl | rfl <;> exact hu
  | succ j =>
    cases j with
    | zero =>
      have e : q = y := by simpa using hy
      subst e
      refine ⟨_, ?_, k27_mk W q hc9 hq, fun i u hu => ?_⟩
      · rfl
      · rw [hsz, show (Addr.add ⟨g, 0, none⟩ ((0 + 1) * 9 + i)) = ⟨g, 9 + i, none⟩ by simp [Addr.add], cell_of_row W g (9 + i) _ T (0, 0) hg]
        have hi : i < 9 := (List.getElem?_eq_some_iff.1 hu).1
        have : i = 0 ∨ i = 1 ∨ i = 2 ∨ i = 3 ∨ i = 4 ∨ i = 5 ∨ i = 6 ∨ i = 7 ∨ i = 8 := by omega
        rcases this with rfl | rfl | rfl | rfl | rfl | rfl | rfl | rfl | rfl <;> exact hu
    | succ j => simp at hy
end Go.Proofs.Ytdedmhmomoejkaa.X
namespace Go.Proofs.Ytdedmhmomoejkaa.X
open Go.RowKit Go.Proofs.YtdedmhmomoejkaaW.PrintWords Go.Proofs.YtdedmhmomoejkaaW.PrintLast Go.Proofs.YtdedmhmomoejkaaW.PrintMore
attribute [local go_sem] max2_int max_two
set_option linter.unusedVariables false
set_option linter.unusedSimpArgs false
def jn13.T : Bool × List (List Nat × List Nat) := (true, [([], []), ([], []), ([], []), ([], []), ([2, 3], [2, 3]), ([4], [4]), ([0, 1, 5], [0, 1, 5]), ([6], [6]), ([7], [7]), ([7], [7]), ([8, 6, 0, 1, 2, 3, 4, 5, 6, 7, 8], [8]), ([9, 10, 0, 1, 2, 3, 4, 5, 6, 7, 8, 9, 10], [9])])
def jn13.B : List Nat := [0, 0, 0, 0, 12, 28, 63, 127, 255, 255, 511, 2047]
theorem jn13.tab : rtab .any (opsOf Try.f7 13) = jn13.T := by kernel_rfl
theorem jn13.bits : waitsOk jn13.T.2 jn13.B = true := by kernel_rfl
def jn14.T : Bool × List (List Nat × List Nat) := (true, [([], []), ([], []), ([], []), ([], []), ([2, 3], [2, 3]), ([4], [4]), ([0, 1, 5], [0, 1, 5]), ([6], [6]), ([7], [7]), ([7], [7]), ([8, 6, 0, 1, 2, 3, 4, 5, 6, 7, 8], [8]), ([9, 10, 0, 1, 2, 3, 4, 5, 6, 7, 8, 9, 10], [9])])
def jn14.B : List Nat := [0, 0, 0, 0, 12, 28, 63, 127, 255, 255, 511, 2047]
theorem jn14.tab : rtab .any (opsOf Try.f7 14) = jn14.T := by kernel_rfl
theorem jn14.bits : waitsOk jn14.T.2 jn14.B = true := by kernel_rfl
theorem size_alloc_J (w : World) (o : Obj) : (w.alloc o).heap.size = w.heap.size + 1 := by simp
theorem cut_wpJ {P : Program} {c : Code} {Q : Exit → Act → World → Prop} {a : Act} {E : World} (F : World → Prop) (hF : F E) (h : ∀ w1, F w1 → c.wp P Q a w1) : c.wp P Q a E := h E hF
set_option maxHeartbeats 8000000 in
set_option maxRecDepth 100000 in
theorem evalJoins.calls (A0 : Option Addr) (c0 : Nat) (l0 : List S64) (x : S27) (A8 : Option Addr) (c8 : Nat) (y : S27) (A9 : Option Addr) (c9 : Nat) (A2 : Option Addr) (c2 : Nat) (l2 : List (List S24)) (w : World)
    (hr0 : Kd.C k64 w A0 l0.length l0) (hc0 : l0.length ≤ c0) (hr8 : Kd.C k27 w A8 x.f6.length x.f6) (hc8 : x.f6.length ≤ c8) (hr9 : Kd.C k27 w A9 y.f6.length y.f6) (hc9 : y.f6.length ≤ c9) (hr2 : Kd.C (Kd.slice 24 k24) w A2 l2.length l2) (hc2 : l2.length ≤ c2) :
    Calls Try.prog 7 #[.slice A0 l0.length c0, .agg #[.int .i64 x.f0, .string x.f1, .int .i64 x.f2, .bool x.f3.f0, .int .i64 x.f3.f1, .string x.f3.f2, .int .i64 x.f4, .string x.f5, .slice A8 x.f6.length c8, .int .i64 y.f0, .string y.f1, .int .i64 y.f2, .bool y.f3.f0, .int .i64 y.f3.f1, .string y.f3.f2, .int .i64 y.f4, .string y.f5, .slice A9 y.f6.length c9], .slice A2 l2.length c2] w (NotsPost w) := by
  have hu27 := Try.underlying27
  have hu56 := Try.underlying56
  obtain ⟨r13, ⟨k13, h13⟩, hS⟩ := small13 l0 l2 (Kd.C_max hr0) (Kd.C_max hr2)
  obtain ⟨rx, ⟨kx, hx⟩, hlx⟩ := small17 9 x (by omega)
  obtain ⟨ry, ⟨ky, hy⟩, hly⟩ := small17 9 y (by omega)
  have HR0 := Aside0.mk hr0
  have HC0 := Aside0.mk hc0
  have HR8 := Aside0.mk hr8
  have HC8 := Aside0.mk hc8
  have HR9 := Aside0.mk hr9
  have HC9 := Aside0.mk hc9
  have HR2 := Aside0.mk hr2
  have HC2 := Aside0.mk hc2
  have HB := Aside0.mk (below_alloc (Below.refl w.heap.size w) (.cells #[.int .i64 x.f0, .string x.f1, .int .i64 x.f2, .bool x.f3.f0, .int .i64 x.f3.f1, .string x.f3.f2, .int .i64 x.f4, .string x.f5, .slice A8 x.f6.length c8, .int .i64 y.f0, .string y.f1, .int .i64 y.f2, .bool y.f3.f0, .int .i64 y.f3.f1, .string y.f3.f2, .int .i64 y.f4, .string y.f5, .slice A9 y.f6.length c9] 56))
  have BK := Aside0.mk (heap_alloc_new w (.cells #[.int .i64 x.f0, .string x.f1, .int .i64 x.f2, .bool x.f3.f0, .int .i64 x.f3.f1, .string x.f3.f2, .int .i64 x.f4, .string x.f5, .slice A8 x.f6.length c8, .int .i64 y.f0, .string y.f1, .int .i64 y.f2, .bool y.f3.f0, .int .i64 y.f3.f1, .string y.f3.f2, .int .i64 y.f4, .string y.f5, .slice A9 y.f6.length c9] 56))
  have S13 : Aside0 (∀ W, Below w.heap.size w W → Calls Try.prog 16 #[.slice A0 l0.length c0, .slice A2 l2.length c2] W fun e w' => e = .returned (.bool r13) ∧ Drawn0 W w') :=
    ⟨fun W hW => firkinlaw13_Small.calls k13 A0 c0 l0 A2 c2 l2 r13 W (Kd.C_below hr0 hW) hc0 (Kd.C_below hr2 hW) hc2 (h13 k13 (Nat.le_refl _))⟩
  have SX : Aside0 (∀ W, Below w.heap.size w W → Calls Try.prog 10 #[.agg #[.int .i64 x.f0, .string x.f1, .int .i64 x.f2, .bool x.f3.f0, .int .i64 x.f3.f1, .string x.f3.f2, .int .i64 x.f4, .string x.f5, .slice A8 x.f6.length c8], .int .i64 9] W fun e w' => e = .returned (.bool rx) ∧ Below W.heap.size W w') :=
    ⟨fun W hW => firkinref17_Small.calls kx x.f0 x.f1 x.f2 x.f3.f0 x.f3.f1 x.f3.f2 x.f4 x.f5 A8 c8 x.f6 9 rx W (Kd.C_below hr8 hW) hc8 (hx kx (Nat.le_refl _))⟩
  have SY : Aside0 (∀ W, Below w.heap.size w W → Calls Try.prog 10 #[.agg #[.int .i64 y.f0, .string y.f1, .int .i64 y.f2, .bool y.f3.f0, .int .i64 y.f3.f1, .string y.f3.f2, .int .i64 y.f4, .string y.f5, .slice A9 y.f6.length c9], .int .i64 9] W fun e w' => e = .returned (.bool ry) ∧ Below W.heap.size W w') :=
    ⟨fun W hW => firkinref17_Small.calls ky y.f0 y.f1 y.f2 y.f3.f0 y.f3.f1 y.f3.f2 y.f4 y.f5 A9 c9 y.f6 9 ry W (Kd.C_below hr9 hW) hc9 (hy ky (Nat.le_refl _))⟩
  have HLX := Aside0.mk hlx
  have HLY := Aside0.mk hly
  have HS13 := Aside0.mk hS
  clear hr0 hc0 hr8 hc8 hr9 hc9 hr2 hc2 h13 hx hy hS hlx hly
  obtain ⟨Q, hQ⟩ : ∃ Q, Q = NotsPost w := ⟨_, rfl⟩
  rw [← hQ]
  have HQ := Aside0.mk hQ
  clear hQ
  cases r13 with
  | false =>
    go_enter Try.func7, Try.ntmps7
    go_wp2_with fail
    refine (S13.out _ HB.out).mono ?_
    rintro e w1 ⟨rfl, hd⟩
    have HB1 := Aside0.mk (below_step HB.out hd.below)
    clear hd HB
    go_wp2_with fail
    refine (live20_at w1).mono ?_
    rintro e wz ⟨rfl, hb⟩
    have HZ := Aside0.mk (below_step HB1.out hb)
    clear hb
    go_wp2
    rw [HQ.out]
    exact ⟨rfl, HZ.out⟩
  | true =>
    cases rx with
    | false =>
      go_enter Try.func7, Try.ntmps7
      go_wp2_with fail
      refine (S13.out _ HB.out).mono ?_
      rintro e w1 ⟨rfl, hd⟩
      have BK1 := Aside0.mk (blk_below BK.out hd.below)
      have HB1 := Aside0.mk (below_step HB.out hd.below)
      clear hd HB BK
      have hz0 : w1.cell? ⟨w.heap.size, 0, none⟩ = _ := (blk_cell BK1.out 0).trans rfl
      have hz1 : w1.cell? ⟨w.heap.size, 1, none⟩ = _ := (blk_cell BK1.out 1).trans rfl
      have hz2 : w1.cell? ⟨w.heap.size, 2, none⟩ = _ := (blk_cell BK1.out 2).trans rfl
      have hz3 : w1.cell? ⟨w.heap.size, 3, none⟩ = _ := (blk_cell BK1.out 3).trans rfl
      have hz4 : w1.cell? ⟨w.heap.size, 4, none⟩ = _ := (blk_cell BK1.out 4).trans rfl
      have hz5 : w1.cell? ⟨w.heap.size, 5, none⟩ = _ := (blk_cell BK1.out 5).trans rfl
      have hz6 : w1.cell? ⟨w.heap.size, 6, none⟩ = _ := (blk_cell BK1.out 6).trans rfl
      have hz7 : w1.cell? ⟨w.heap.size, 7, none⟩ = _ := (blk_cell BK1.out 7).trans rfl
      have hz8 : w1.cell? ⟨w.heap.size, 8, none⟩ = _ := (blk_cell BK1.out 8).trans rfl
      have hz9 : w1.cell? ⟨w.heap.size, 9, none⟩ = _ := (blk_cell BK1.out 9).trans rfl
      have hz10 : w1.cell? ⟨w.heap.size, 10, none⟩ = _ := (blk_cell BK1.out 10).trans rfl
      have hz11 : w1.cell? ⟨w.heap.size, 11, none⟩ = _ := (blk_cell BK1.out 11).trans rfl
      have hz12 : w1.cell? ⟨w.heap.size, 12, none⟩ = _ := (blk_cell BK1.out 12).trans rfl
      have hz13 : w1.cell? ⟨w.heap.size, 13, none⟩ = _ := (blk_cell BK1.out 13).trans rfl
      have hz14 : w1.cell? ⟨w.heap.size, 14, none⟩ = _ := (blk_cell BK1.out 14).trans rfl
      have hz15 : w1.cell? ⟨w.heap.size, 15, none⟩ = _ := (blk_cell BK1.out 15).trans rfl
      have hz16 : w1.cell? ⟨w.heap.size, 16, none⟩ = _ := (blk_cell BK1.out 16).trans rfl
      have hz17 : w1.cell? ⟨w.heap.size, 17, none⟩ = _ := (blk_cell BK1.out 17).trans rfl
      go_wp2_with fail
      refine (SX.out _ HB1.out).mono ?_
      rintro e w2 ⟨rfl, hb⟩
      have HB2 := Aside0.mk (below_step HB1.out hb)
      clear hb HB1
      clear hz0 hz1 hz2 hz3 hz4 hz5 hz6 hz7 hz8 hz9 hz10 hz11 hz12 hz13 hz14 hz15 hz16 hz17
      go_wp2_with fail
      refine (live20_at w2).mono ?_
      rintro e wz ⟨rfl, hb⟩
      have HZ := Aside0.mk (below_step HB2.out hb)
      clear hb
      go_wp2
      rw [HQ.out]
      exact ⟨rfl, HZ.out⟩
    | true =>
      cases ry with
      | false =>
        go_enter Try.func7, Try.ntmps7
        go_wp2_with fail
        refine (S13.out _ HB.out).mono ?_
        rintro e w1 ⟨rfl, hd⟩
        have BK1 := Aside0.mk (blk_below BK.out hd.below)
        have HB1 := Aside0.mk (below_step HB.out hd.below)
        clear hd HB BK
        have hz0 : w1.cell? ⟨w.heap.size, 0, none⟩ = _ := (blk_cell BK1.out 0).trans rfl
        have hz1 : w1.cell? ⟨w.heap.size, 1, none⟩ = _ := (blk_cell BK1.out 1).trans rfl
        have hz2 : w1.cell? ⟨w.heap.size, 2, none⟩ = _ := (blk_cell BK1.out 2).trans rfl
        have hz3 : w1.cell? ⟨w.heap.size, 3, none⟩ = _ := (blk_cell BK1.out 3).trans rfl
        have hz4 : w1.cell? ⟨w.heap.size, 4, none⟩ = _ := (blk_cell BK1.out 4).trans rfl
        have hz5 : w1.cell? ⟨w.heap.size, 5, none⟩ = _ := (blk_cell BK1.out 5).trans rfl
        have hz6 : w1.cell? ⟨w.heap.size, 6, none⟩ = _ := (blk_cell BK1.out 6).trans rfl
        have hz7 : w1.cell? ⟨w.heap.size, 7, none⟩ = _ := (blk_cell BK1.out 7).trans rfl
        have hz8 : w1.cell? ⟨w.heap.size, 8, none⟩ = _ := (blk_cell BK1.out 8).trans rfl
        have hz9 : w1.cell? ⟨w.heap.size, 9, none⟩ = _ := (blk_cell BK1.out 9).trans rfl
        have hz10 : w1.cell? ⟨w.heap.size, 10, none⟩ = _ := (blk_cell BK1.out 10).trans rfl
        have hz11 : w1.cell? ⟨w.heap.size, 11, none⟩ = _ := (blk_cell BK1.out 11).trans rfl
        have hz12 : w1.cell? ⟨w.heap.size, 12, none⟩ = _ := (blk_cell BK1.out 12).trans rfl
        have hz13 : w1.cell? ⟨w.heap.size, 13, none⟩ = _ := (blk_cell BK1.out 13).trans rfl
        have hz14 : w1.cell? ⟨w.heap.size, 14, none⟩ = _ := (blk_cell BK1.out 14).trans rfl
        have hz15 : w1.cell? ⟨w.heap.size, 15, none⟩ = _ := (blk_cell BK1.out 15).trans rfl
        have hz16 : w1.cell? ⟨w.heap.size, 16, none⟩ = _ := (blk_cell BK1.out 16).trans rfl
        have hz17 : w1.cell? ⟨w.heap.size, 17, none⟩ = _ := (blk_cell BK1.out 17).trans rfl
        go_wp2_with fail
        refine (SX.out _ HB1.out).mono ?_
        rintro e w2 ⟨rfl, hb⟩
        have BK2 := Aside0.mk (blk_below BK1.out hb)
        have HB2 := Aside0.mk (below_step HB1.out hb)
        clear hb HB1 BK1
        clear hz0 hz1 hz2 hz3 hz4 hz5 hz6 hz7 hz8 hz9 hz10 hz11 hz12 hz13 hz14 hz15 hz16 hz17
        have hz0 : w2.cell? ⟨w.heap.size, 0, none⟩ = _ := (blk_cell BK2.out 0).trans rfl
        have hz1 : w2.cell? ⟨w.heap.size, 1, none⟩ = _ := (blk_cell BK2.out 1).trans rfl
        have hz2 : w2.cell? ⟨w.heap.size, 2, none⟩ = _ := (blk_cell BK2.out 2).trans rfl
        have hz3 : w2.cell? ⟨w.heap.size, 3, none⟩ = _ := (blk_cell BK2.out 3).trans rfl
        have hz4 : w2.cell? ⟨w.heap.size, 4, none⟩ = _ := (blk_cell BK2.out 4).trans rfl
        have hz5 : w2.cell? ⟨w.heap.size, 5, none⟩ = _ := (blk_cell BK2.out 5).trans rfl
        have hz6 : w2.cell? ⟨w.heap.size, 6, none⟩ = _ := (blk_cell BK2.out 6).trans rfl
        have hz7 : w2.cell? ⟨w.heap.size, 7, none⟩ = _ := (blk_cell BK2.out 7).trans rfl
        have hz8 : w2.cell? ⟨w.heap.size, 8, none⟩ = _ := (blk_cell BK2.out 8).trans rfl
        have hz9 : w2.cell? ⟨w.heap.size, 9, none⟩ = _ := (blk_cell BK2.out 9).trans rfl
        have hz10 : w2.cell? ⟨w.heap.size, 10, none⟩ = _ := (blk_cell BK2.out 10).trans rfl
        have hz11 : w2.cell? ⟨w.heap.size, 11, none⟩ = _ := (blk_cell BK2.out 11).trans rfl
        have hz12 : w2.cell? ⟨w.heap.size, 12, none⟩ = _ := (blk_cell BK2.out 12).trans rfl
        have hz13 : w2.cell? ⟨w.heap.size, 13, none⟩ = _ := (blk_cell BK2.out 13).trans rfl
        have hz14 : w2.cell? ⟨w.heap.size, 14, none⟩ = _ := (blk_cell BK2.out 14).trans rfl
        have hz15 : w2.cell? ⟨w.heap.size, 15, none⟩ = _ := (blk_cell BK2.out 15).trans rfl
        have hz16 : w2.cell? ⟨w.heap.size, 16, none⟩ = _ := (blk_cell BK2.out 16).trans rfl
        have hz17 : w2.cell? ⟨w.heap.size, 17, none⟩ = _ := (blk_cell BK2.out 17).trans rfl
        go_wp2_with fail
        refine (SY.out _ HB2.out).mono ?_
        rintro e w3 ⟨rfl, hb⟩
        have HB3 := Aside0.mk (below_step HB2.out hb)
        clear hb HB2 BK2
        clear hz0 hz1 hz2 hz3 hz4 hz5 hz6 hz7 hz8 hz9 hz10 hz11 hz12 hz13 hz14 hz15 hz16 hz17
        go_wp2_with fail
        refine (live20_at w3).mono ?_
        rintro e wz ⟨rfl, hb⟩
        have HZ := Aside0.mk (below_step HB3.out hb)
        clear hb
        go_wp2
        rw [HQ.out]
        exact ⟨rfl, HZ.out⟩
      | true =>
        have hl20 := (HS13.out rfl).1
        have hl210 := (HS13.out rfl).2
        have LX := Lens.le 4 9 x (by omega) (HLX.out rfl)
        have LY := Lens.le 4 9 y (by omega) (HLY.out rfl)
        have L2 : ∀ op, Lens 5 (kidP op [x, y]) := fun op => ⟨by simp [kidP], fun z hz => by
          have : z = x ∨ z = y := by simpa [kidP] using hz
          rcases this with rfl | rfl
          · exact LX
          · exact LY⟩
        have LA0 : ∀ op, Lens 6 (kidP 5 [kidP op [x, y]]) := fun op => ⟨by simp [kidP], fun z hz => by
          have : z = kidP op [x, y] := by simpa [kidP] using hz
          rw [this]; exact L2 op⟩
        have L1 : ∀ z, Lens 4 z → Lens 5 (kidP 5 [z]) := fun z h => ⟨by simp [kidP], fun z' hz => by
          have : z' = z := by simpa [kidP] using hz
          rw [this]; exact h⟩
        have LB0 : ∀ op, Lens 6 (kidP op [kidP 5 [x], kidP 5 [y]]) := fun op => ⟨by simp [kidP], fun z hz => by
          have : z = kidP 5 [x] ∨ z = kidP 5 [y] := by simpa [kidP] using hz
          rcases this with rfl | rfl
          · exact L1 x LX
          · exact L1 y LY⟩
        have LAA := Aside0.mk LA0
        have LBB := Aside0.mk LB0
        clear LX LY L2 LA0 L1 LB0
        go_enter Try.func7, Try.ntmps7
        go_wp2_with fail
        refine (S13.out _ HB.out).mono ?_
        rintro e w1 ⟨rfl, hd⟩
        have BK1 := Aside0.mk (blk_below BK.out hd.below)
        have HB1 := Aside0.mk (below_step HB.out hd.below)
        clear hd HB BK
        have hz0 : w1.cell? ⟨w.heap.size, 0, none⟩ = _ := (blk_cell BK1.out 0).trans rfl
        have hz1 : w1.cell? ⟨w.heap.size, 1, none⟩ = _ := (blk_cell BK1.out 1).trans rfl
        have hz2 : w1.cell? ⟨w.heap.size, 2, none⟩ = _ := (blk_cell BK1.out 2).trans rfl
        have hz3 : w1.cell? ⟨w.heap.size, 3, none⟩ = _ := (blk_cell BK1.out 3).trans rfl
        have hz4 : w1.cell? ⟨w.heap.size, 4, none⟩ = _ := (blk_cell BK1.out 4).trans rfl
        have hz5 : w1.cell? ⟨w.heap.size, 5, none⟩ = _ := (blk_cell BK1.out 5).trans rfl
        have hz6 : w1.cell? ⟨w.heap.size, 6, none⟩ = _ := (blk_cell BK1.out 6).trans rfl
        have hz7 : w1.cell? ⟨w.heap.size, 7, none⟩ = _ := (blk_cell BK1.out 7).trans rfl
        have hz8 : w1.cell? ⟨w.heap.size, 8, none⟩ = _ := (blk_cell BK1.out 8).trans rfl
        have hz9 : w1.cell? ⟨w.heap.size, 9, none⟩ = _ := (blk_cell BK1.out 9).trans rfl
        have hz10 : w1.cell? ⟨w.heap.size, 10, none⟩ = _ := (blk_cell BK1.out 10).trans rfl
        have hz11 : w1.cell? ⟨w.heap.size, 11, none⟩ = _ := (blk_cell BK1.out 11).trans rfl
        have hz12 : w1.cell? ⟨w.heap.size, 12, none⟩ = _ := (blk_cell BK1.out 12).trans rfl
        have hz13 : w1.cell? ⟨w.heap.size, 13, none⟩ = _ := (blk_cell BK1.out 13).trans rfl
        have hz14 : w1.cell? ⟨w.heap.size, 14, none⟩ = _ := (blk_cell BK1.out 14).trans rfl
        have hz15 : w1.cell? ⟨w.heap.size, 15, none⟩ = _ := (blk_cell BK1.out 15).trans rfl
        have hz16 : w1.cell? ⟨w.heap.size, 16, none⟩ = _ := (blk_cell BK1.out 16).trans rfl
        have hz17 : w1.cell? ⟨w.heap.size, 17, none⟩ = _ := (blk_cell BK1.out 17).trans rfl
        go_wp2_with fail
        refine (SX.out _ HB1.out).mono ?_
        rintro e w2 ⟨rfl, hb⟩
        have BK2 := Aside0.mk (blk_below BK1.out hb)
        have HB2 := Aside0.mk (below_step HB1.out hb)
        clear hb HB1 BK1
        clear hz0 hz1 hz2 hz3 hz4 hz5 hz6 hz7 hz8 hz9 hz10 hz11 hz12 hz13 hz14 hz15 hz16 hz17
        have hz0 : w2.cell? ⟨w.heap.size, 0, none⟩ = _ := (blk_cell BK2.out 0).trans rfl
        have hz1 : w2.cell? ⟨w.heap.size, 1, none⟩ = _ := (blk_cell BK2.out 1).trans rfl
        have hz2 : w2.cell? ⟨w.heap.size, 2, none⟩ = _ := (blk_cell BK2.out 2).trans rfl
        have hz3 : w2.cell? ⟨w.heap.size, 3, none⟩ = _ := (blk_cell BK2.out 3).trans rfl
        have hz4 : w2.cell? ⟨w.heap.size, 4, none⟩ = _ := (blk_cell BK2.out 4).trans rfl
        have hz5 : w2.cell? ⟨w.heap.size, 5, none⟩ = _ := (blk_cell BK2.out 5).trans rfl
        have hz6 : w2.cell? ⟨w.heap.size, 6, none⟩ = _ := (blk_cell BK2.out 6).trans rfl
        have hz7 : w2.cell? ⟨w.heap.size, 7, none⟩ = _ := (blk_cell BK2.out 7).trans rfl
        have hz8 : w2.cell? ⟨w.heap.size, 8, none⟩ = _ := (blk_cell BK2.out 8).trans rfl
        have hz9 : w2.cell? ⟨w.heap.size, 9, none⟩ = _ := (blk_cell BK2.out 9).trans rfl
        have hz10 : w2.cell? ⟨w.heap.size, 10, none⟩ = _ := (blk_cell BK2.out 10).trans rfl
        have hz11 : w2.cell? ⟨w.heap.size, 11, none⟩ = _ := (blk_cell BK2.out 11).trans rfl
        have hz12 : w2.cell? ⟨w.heap.size, 12, none⟩ = _ := (blk_cell BK2.out 12).trans rfl
        have hz13 : w2.cell? ⟨w.heap.size, 13, none⟩ = _ := (blk_cell BK2.out 13).trans rfl
        have hz14 : w2.cell? ⟨w.heap.size, 14, none⟩ = _ := (blk_cell BK2.out 14).trans rfl
        have hz15 : w2.cell? ⟨w.heap.size, 15, none⟩ = _ := (blk_cell BK2.out 15).trans rfl
        have hz16 : w2.cell? ⟨w.heap.size, 16, none⟩ = _ := (blk_cell BK2.out 16).trans rfl
        have hz17 : w2.cell? ⟨w.heap.size, 17, none⟩ = _ := (blk_cell BK2.out 17).trans rfl
        go_wp2_with fail
        refine (SY.out _ HB2.out).mono ?_
        rintro e w3 ⟨rfl, hb⟩
        have BK3 := Aside0.mk (blk_below BK2.out hb)
        have HB3 := Aside0.mk (below_step HB2.out hb)
        clear hb HB2 BK2
        clear hz0 hz1 hz2 hz3 hz4 hz5 hz6 hz7 hz8 hz9 hz10 hz11 hz12 hz13 hz14 hz15 hz16 hz17
        have hz0 : w3.cell? ⟨w.heap.size, 0, none⟩ = _ := (blk_cell BK3.out 0).trans rfl
        have hz1 : w3.cell? ⟨w.heap.size, 1, none⟩ = _ := (blk_cell BK3.out 1).trans rfl
        have hz2 : w3.cell? ⟨w.heap.size, 2, none⟩ = _ := (blk_cell BK3.out 2).trans rfl
        have hz3 : w3.cell? ⟨w.heap.size, 3, none⟩ = _ := (blk_cell BK3.out 3).trans rfl
        have hz4 : w3.cell? ⟨w.heap.size, 4, none⟩ = _ := (blk_cell BK3.out 4).trans rfl
        have hz5 : w3.cell? ⟨w.heap.size, 5, none⟩ = _ := (blk_cell BK3.out 5).trans rfl
        have hz6 : w3.cell? ⟨w.heap.size, 6, none⟩ = _ := (blk_cell BK3.out 6).trans rfl
        have hz7 : w3.cell? ⟨w.heap.size, 7, none⟩ = _ := (blk_cell BK3.out 7).trans rfl
        have hz8 : w3.cell? ⟨w.heap.size, 8, none⟩ = _ := (blk_cell BK3.out 8).trans rfl
        have hz9 : w3.cell? ⟨w.heap.size, 9, none⟩ = _ := (blk_cell BK3.out 9).trans rfl
        have hz10 : w3.cell? ⟨w.heap.size, 10, none⟩ = _ := (blk_cell BK3.out 10).trans rfl
        have hz11 : w3.cell? ⟨w.heap.size, 11, none⟩ = _ := (blk_cell BK3.out 11).trans rfl
        have hz12 : w3.cell? ⟨w.heap.size, 12, none⟩ = _ := (blk_cell BK3.out 12).trans rfl
        have hz13 : w3.cell? ⟨w.heap.size, 13, none⟩ = _ := (blk_cell BK3.out 13).trans rfl
        have hz14 : w3.cell? ⟨w.heap.size, 14, none⟩ = _ := (blk_cell BK3.out 14).trans rfl
        have hz15 : w3.cell? ⟨w.heap.size, 15, none⟩ = _ := (blk_cell BK3.out 15).trans rfl
        have hz16 : w3.cell? ⟨w.heap.size, 16, none⟩ = _ := (blk_cell BK3.out 16).trans rfl
        have hz17 : w3.cell? ⟨w.heap.size, 17, none⟩ = _ := (blk_cell BK3.out 17).trans rfl
        go_wp2_with fail
        go_still_tail 6, (by kernel_rfl)
        change wpList _ _ _ _ _ (World.drew _)
        go_wp2
        have g1 := heap_alloc_new w3 (.cells #[.int .i64 x.f0, .string x.f1, .int .i64 x.f2, .bool x.f3.f0, .int .i64 x.f3.f1, .string x.f3.f2, .int .i64 x.f4, .string x.f5, .slice A8 x.f6.length c8, .int .i64 y.f0, .string y.f1, .int .i64 y.f2, .bool y.f3.f0, .int .i64 y.f3.f1, .string y.f3.f2, .int .i64 y.f4, .string y.f5, .slice A9 y.f6.length c9] 27)
        have g2 := heap_alloc_new (w3.alloc (.cells #[.int .i64 x.f0, .string x.f1, .int .i64 x.f2, .bool x.f3.f0, .int .i64 x.f3.f1, .string x.f3.f2, .int .i64 x.f4, .string x.f5, .slice A8 x.f6.length c8, .int .i64 y.f0, .string y.f1, .int .i64 y.f2, .bool y.f3.f0, .int .i64 y.f3.f1, .string y.f3.f2, .int .i64 y.f4, .string y.f5, .slice A9 y.f6.length c9] 27)) (.cells #[.int .i64 5, .string ⟨#[]⟩, .int .i64 0, .bool false, .int .i64 0, .string ⟨#[]⟩, .int .i64 0, .string ⟨#[]⟩, .slice (some ⟨w3.heap.size, 0, none⟩) 1 2, .int .i64 5, .string ⟨#[]⟩, .int .i64 0, .bool false, .int .i64 0, .string ⟨#[]⟩, .int .i64 0, .string ⟨#[]⟩, .slice (some ⟨w3.heap.size, 9, none⟩) 1 1] 27)
        have gs : (w3.alloc (.cells #[.int .i64 x.f0, .string x.f1, .int .i64 x.f2, .bool x.f3.f0, .int .i64 x.f3.f1, .string x.f3.f2, .int .i64 x.f4, .string x.f5, .slice A8 x.f6.length c8, .int .i64 y.f0, .string y.f1, .int .i64 y.f2, .bool y.f3.f0, .int .i64 y.f3.f1, .string y.f3.f2, .int .i64 y.f4, .string y.f5, .slice A9 y.f6.length c9] 27)).heap.size = w3.heap.size + 1 := by simp
        rw [gs] at g2
        refine cut_wpJ (fun W => Below w3.heap.size w3 W ∧ W.heap[w3.heap.size]? = some (.cells #[.int .i64 x.f0, .string x.f1, .int .i64 x.f2, .bool x.f3.f0, .int .i64 x.f3.f1, .string x.f3.f2, .int .i64 x.f4, .string x.f5, .slice A8 x.f6.length c8, .int .i64 y.f0, .string y.f1, .int .i64 y.f2, .bool y.f3.f0, .int .i64 y.f3.f1, .string y.f3.f2, .int .i64 y.f4, .string y.f5, .slice A9 y.f6.length c9] 27 (0, 0)) ∧ W.heap[w3.heap.size + 1]? = some (.cells #[.int .i64 5, .string ⟨#[]⟩, .int .i64 0, .bool false, .int .i64 0, .string ⟨#[]⟩, .int .i64 0, .string ⟨#[]⟩, .slice (some ⟨w3.heap.size, 0, none⟩) 1 2, .int .i64 5, .string ⟨#[]⟩, .int .i64 0, .bool false, .int .i64 0, .string ⟨#[]⟩, .int .i64 0, .string ⟨#[]⟩, .slice (some ⟨w3.heap.size, 9, none⟩) 1 1] 27 (0, 0))) ⟨?_, ?_, ?_⟩ ?_
        · exact below_drew1 (below_alloc (below_alloc (Below.refl _ _) _) _)
        · exact blk_drew (blk_alloc g1 _)
        · exact blk_drew g2
        clear g1 g2 gs BK3
        clear hz0 hz1 hz2 hz3 hz4 hz5 hz6 hz7 hz8 hz9 hz10 hz11 hz12 hz13 hz14 hz15 hz16 hz17
        rintro w4 ⟨hb, e1, e2⟩
        have HB4 : Aside0 (Below w.heap.size w w4) := ⟨below_step HB3.out hb⟩
        have CL : Aside0 (Kd.C k27 w4 (some ⟨w3.heap.size, 0, none⟩) [x, y].length [x, y]) := ⟨two27 (Kd.C_below HR8.out HB4.out) HC8.out (Kd.C_below HR9.out HB4.out) HC9.out e1⟩
        have CX : Aside0 (Kd.C k27 w4 (some ⟨w3.heap.size, 0, none⟩) [x].length [x]) := ⟨Kd.C_take (m := 1) CL.out (by simp)⟩
        have CY : Aside0 (Kd.C k27 w4 (some ⟨w3.heap.size, 9, none⟩) [y].length [y]) := ⟨Kd.C_drop (m := 1) (c := 2) CL.out (by simp) (by simp)⟩
        have CN : Aside0 (Kd.C k27 w4 (some ⟨w3.heap.size + 1, 0, none⟩) [kidP 5 [x], kidP 5 [y]].length [kidP 5 [x], kidP 5 [y]]) := ⟨two27 (p := kidP 5 [x]) (q := kidP 5 [y]) (c8 := 2) (c9 := 1) CX.out (by simp [kidP]) CY.out (by simp [kidP]) e2⟩
        clear hb e1 e2 HB3
        go_loopg [9] 2 (fun gk v9 wr => ∃ kk : Nat, kk ≤ 2 ∧ 2 - kk ≤ gk ∧ v9 = .int .i64 kk ∧ Aside0 (Below w4.heap.size w4 wr))
        case atStart => exact ⟨0, by omega, by omega, rfl, ⟨Below.refl _ _⟩⟩
        case round =>
          obtain ⟨kk, hkk, hg, rfl, BW⟩ := hrel
          by_cases hlt : kk < 2
          · have hltz : (kk : Int) < 2 := by omega
            go_wp2
            obtain ⟨wo, rfl⟩ : ∃ wo, wo = wr := ⟨_, rfl⟩
            have g3 := heap_alloc_new wo (.cells #[.int .i64 (6 + (kk : Int)), .string ⟨#[]⟩, .int .i64 0, .bool false, .int .i64 0, .string ⟨#[]⟩, .int .i64 0, .string ⟨#[]⟩, .slice (some ⟨w3.heap.size, 0, none⟩) 2 2] 27)
            have g4 := heap_alloc_new (wo.alloc (.cells #[.int .i64 (6 + (kk : Int)), .string ⟨#[]⟩, .int .i64 0, .bool false, .int .i64 0, .string ⟨#[]⟩, .int .i64 0, .string ⟨#[]⟩, .slice (some ⟨w3.heap.size, 0, none⟩) 2 2] 27)) (.cells #[.int .i64 5, .string ⟨#[]⟩, .int .i64 0, .bool false, .int .i64 0, .string ⟨#[]⟩, .int .i64 0, .string ⟨#[]⟩, .slice (some ⟨wo.heap.size, 0, none⟩) 1 1] 27)
            have g5 := heap_alloc_new ((wo.alloc (.cells #[.int .i64 (6 + (kk : Int)), .string ⟨#[]⟩, .int .i64 0, .bool false, .int .i64 0, .string ⟨#[]⟩, .int .i64 0, .string ⟨#[]⟩, .slice (some ⟨w3.heap.size, 0, none⟩) 2 2] 27)).alloc (.cells #[.int .i64 5, .string ⟨#[]⟩, .int .i64 0, .bool false, .int .i64 0, .string ⟨#[]⟩, .int .i64 0, .string ⟨#[]⟩, .slice (some ⟨wo.heap.size, 0, none⟩) 1 1] 27)) (.cells #[.int .i64 (7 - (kk : Int)), .string ⟨#[]⟩, .int .i64 0, .bool false, .int .i64 0, .string ⟨#[]⟩, .int .i64 0, .string ⟨#[]⟩, .slice (some ⟨w3.heap.size + 1, 0, none⟩) 2 2] 27)
            simp only [size_alloc_J] at g4 g5
            refine cut_wpJ (fun W => Below wo.heap.size wo W ∧ W.heap[wo.heap.size]? = some (.cells #[.int .i64 (6 + (kk : Int)), .string ⟨#[]⟩, .int .i64 0, .bool false, .int .i64 0, .string ⟨#[]⟩, .int .i64 0, .string ⟨#[]⟩, .slice (some ⟨w3.heap.size, 0, none⟩) 2 2] 27 (0, 0)) ∧ W.heap[wo.heap.size + 1]? = some (.cells #[.int .i64 5, .string ⟨#[]⟩, .int .i64 0, .bool false, .int .i64 0, .string ⟨#[]⟩, .int .i64 0, .string ⟨#[]⟩, .slice (some ⟨wo.heap.size, 0, none⟩) 1 1] 27 (0, 0)) ∧ W.heap[wo.heap.size + 1 + 1]? = some (.cells #[.int .i64 (7 - (kk : Int)), .string ⟨#[]⟩, .int .i64 0, .bool false, .int .i64 0, .string ⟨#[]⟩, .int .i64 0, .string ⟨#[]⟩, .slice (some ⟨w3.heap.size + 1, 0, none⟩) 2 2] 27 (0, 0))) ⟨?_, ?_, ?_, ?_⟩ ?_
            · exact below_alloc (below_alloc (below_alloc (Below.refl _ _) _) _) _
            · exact blk_alloc (blk_alloc g3 _) _
            · exact blk_alloc g4 _
            · exact g5
            clear g3 g4 g5
            rintro w5 ⟨hb, e3, e4, e5⟩
            have B5w := Aside0.mk hb
            have B4 := Aside0.mk e4
            have B5 := Aside0.mk e5
            have HB5 : Aside0 (Below w4.heap.size w4 w5) := ⟨below_step BW.out hb⟩
            have CA : Aside0 (Kd.C k27 w5 (some ⟨wo.heap.size, 0, none⟩) [kidP (6 + (kk : Int)) [x, y]].length [kidP (6 + (kk : Int)) [x, y]]) := ⟨one27n (x := kidP (6 + (kk : Int)) [x, y]) (c8 := 2) (Kd.C_below CL.out HB5.out) (by simp [kidP]) e3⟩
            clear hb e3 e4 e5
            go_loopg [12] l2.length (fun gk v12 wr => ∃ jj : Nat, jj ≤ l2.length ∧ l2.length - jj ≤ gk ∧ v12 = .int .i64 jj ∧ Aside0 (Below w5.heap.size w5 wr))
            case atStart => exact ⟨0, by omega, by omega, rfl, ⟨Below.refl _ _⟩⟩
            case round =>
              obtain ⟨jj, hjj, hgj, rfl, BQ⟩ := hrel
              by_cases hltj : jj < l2.length
              · have hltjz : (jj : Int) < (l2.length : Int) := by omega
                have HQW : Aside0 (Below w.heap.size w wr) := ⟨below_step HB4.out (below_step HB5.out BQ.out)⟩
                obtain ⟨ad2, Ar, cr, e, g0, hcr, hrr⟩ := at_L8 (Kd.C_below HR2.out HQW.out) (jj : Int) (by omega) (by omega)
                cases e
                simp only [Int.toNat_natCast] at g0
                have LA := Aside0.mk (LAA.out (6 + (kk : Int)))
                have LB := Aside0.mk (LBB.out (7 - (kk : Int)))
                obtain ⟨⟨a, ea⟩, ⟨k1, h1⟩, hra⟩ := row20 l0 (rd_L8 l2 (jj : Int)) (kidP 5 [kidP (6 + (kk : Int)) [x, y]]) (by omega) LA.out
                obtain ⟨⟨b, eb⟩, ⟨k2, h2⟩, hrb⟩ := row20 l0 (rd_L8 l2 (jj : Int)) (kidP (7 - (kk : Int)) [kidP 5 [x], kidP 5 [y]]) (by omega) LB.out
                have h1 := h1 k1 (Nat.le_refl _)
                have h2 := h2 k2 (Nat.le_refl _)
                have JN : Aside0 (ea = 0 → eb = 0 → a = b) := ⟨fun e1 e2 => (hra e1).trans ((joins l0 (rd_L8 l2 (jj : Int)) x y (kk : Int) (by omega)).trans (hrb e2).symm)⟩
                have RA : Aside0 (∀ W, Below wr.heap.size wr W → Calls Try.prog 22 #[.slice A0 l0.length c0, .agg #[.int .i64 5, .string ⟨#[]⟩, .int .i64 0, .bool false, .int .i64 0, .string ⟨#[]⟩, .int .i64 0, .string ⟨#[]⟩, .slice (some ⟨wo.heap.size, 0, none⟩) 1 1], .slice Ar (rd_L8 l2 (jj : Int)).length cr] W fun e w' => e = .returned (.tuple #[.int .i64 a, .int .i64 ea]) ∧ Below W.heap.size W w') :=
                  ⟨fun W hW => eval_Row.calls k1 A0 c0 l0 5 ⟨#[]⟩ 0 false 0 ⟨#[]⟩ 0 ⟨#[]⟩ (some ⟨wo.heap.size, 0, none⟩) 1 [kidP (6 + (kk : Int)) [x, y]] Ar cr (rd_L8 l2 (jj : Int)) a ea W (Kd.C_below HR0.out (below_step HQW.out hW)) HC0.out (Kd.C_below (Kd.C_below CA.out BQ.out) hW) (by simp) (Kd.C_below hrr hW) hcr h1⟩
                have RB : Aside0 (∀ W, Below wr.heap.size wr W → Calls Try.prog 22 #[.slice A0 l0.length c0, .agg #[.int .i64 (7 - (kk : Int)), .string ⟨#[]⟩, .int .i64 0, .bool false, .int .i64 0, .string ⟨#[]⟩, .int .i64 0, .string ⟨#[]⟩, .slice (some ⟨w3.heap.size + 1, 0, none⟩) 2 2], .slice Ar (rd_L8 l2 (jj : Int)).length cr] W fun e w' => e = .returned (.tuple #[.int .i64 b, .int .i64 eb]) ∧ Below W.heap.size W w') :=
                  ⟨fun W hW => eval_Row.calls k2 A0 c0 l0 (7 - (kk : Int)) ⟨#[]⟩ 0 false 0 ⟨#[]⟩ 0 ⟨#[]⟩ (some ⟨w3.heap.size + 1, 0, none⟩) 2 [kidP 5 [x], kidP 5 [y]] Ar cr (rd_L8 l2 (jj : Int)) b eb W (Kd.C_below HR0.out (below_step HQW.out hW)) HC0.out (Kd.C_below (Kd.C_below (Kd.C_below (Kd.C_below CN.out BW.out) B5w.out) BQ.out) hW) (by simp) (Kd.C_below hrr hW) hcr h2⟩
                clear h1 h2 hra hrb hrr hcr
                generalize (rd_L8 l2 (jj : Int)) = r at g0 RA RB
                go_wp2_with fail
                refine start_ (n := 12) (S := (fun wX => Below wr.heap.size wr wX ∧ wX.heap[wo.heap.size + 1]? = some (.cells #[.int .i64 5, .string ⟨#[]⟩, .int .i64 0, .bool false, .int .i64 0, .string ⟨#[]⟩, .int .i64 0, .string ⟨#[]⟩, .slice (some ⟨wo.heap.size, 0, none⟩) 1 1] 27 (0, 0)) ∧ wX.heap[wo.heap.size + 1 + 1]? = some (.cells #[.int .i64 (7 - (kk : Int)), .string ⟨#[]⟩, .int .i64 0, .bool false, .int .i64 0, .string ⟨#[]⟩, .int .i64 0, .string ⟨#[]⟩, .slice (some ⟨w3.heap.size + 1, 0, none⟩) 2 2] 27 (0, 0)) ∧ wX.cell? (ad2.add jj) = some (.slice Ar r.length cr))) (ds := []) #[false, false, false, false, false, false, false, false, false, false, false, false] (by kernel_rfl) rfl rfl ⟨below_drew1 (Below.refl _ _), blk_drew (blk_below B4.out BQ.out), blk_drew (blk_below B5.out BQ.out), g0⟩ (fun HS => ?_)
                refine with_tabW jn13.tab jn13.bits (fun HT_ HW_ => ?_)
                generalize wr.drew = w6 at HS ⊢
                refine pu_ 0 (some 67) (bl_ 12 1) ?_
                refine pu_ 2 (some 69) (bl_ 12 5) ?_
                refine pu_ 3 (some 70) (bl_ 12 13) ?_
                refine pu_ 4 (some 71) (bl_ 12 29) ?_
                refine take_ (i := 1) (N := some 68) (v := ?_) (a' := ?_) (bl_ 12 31) rfl rfl (take_ofW HT_.out HW_.out (by kernel_rfl)) (fun _ _ _ h => h) (Or.inl ⟨by rfl, ?_⟩) HS ?_ ?_; rotate_left
                · rintro w' ⟨sB, sK, sL, sT⟩; obtain ⟨hz0, hz1, hz2, hz3, hz4, hz5, hz6, hz7, hz8⟩ := cz9_ sK; obtain ⟨hy0, hy1, hy2, hy3, hy4, hy5, hy6, hy7, hy8⟩ := cz9_ sL; go_simp; with_reducible rfl
                rotate_left
                · simp only [Act.put, List.setIfInBounds_toArray, List.set_cons_zero, List.set_cons_succ, i64_w, i32_w]; rfl
                refine take_ (i := 5) (N := some 72) (v := ?_) (a' := ?_) (bl_ 12 63) rfl rfl (take_ofW HT_.out HW_.out (by kernel_rfl)) (fun _ _ _ h => h) (Or.inl ⟨by rfl, ?_⟩) HS ?_ ?_; rotate_left
                · rintro w' ⟨sB, sK, sL, sT⟩; obtain ⟨hz0, hz1, hz2, hz3, hz4, hz5, hz6, hz7, hz8⟩ := cz9_ sK; obtain ⟨hy0, hy1, hy2, hy3, hy4, hy5, hy6, hy7, hy8⟩ := cz9_ sL; go_simp; with_reducible rfl
                rotate_left
                · simp only [Act.put, List.setIfInBounds_toArray, List.set_cons_zero, List.set_cons_succ, i64_w, i32_w]; rfl
                refine one_ (i := 6) (N := some 73) (bl_ 12 127) rfl rfl (one_of HT_.out (by kernel_rfl)) (by decide) (fun K hK => ?_)
                refine gs_ Try.func22 #[.slice A0 l0.length c0, .agg #[.int .i64 5, .string ⟨#[]⟩, .int .i64 0, .bool false, .int .i64 0, .string ⟨#[]⟩, .int .i64 0, .string ⟨#[]⟩, .slice (some ⟨wo.heap.size, 0, none⟩) 1 1], .slice Ar r.length cr] ?_
                refine (RA.out _ HS.1).mono ?_
                rintro e w7 ⟨rfl, hb⟩
                refine ⟨_, rfl, ?_⟩
                obtain ⟨sB, sK, sL, sT⟩ := HS
                refine hK.out _ _ ⟨below_step sB hb, blk_below sK hb, blk_below sL hb, (hb.cell (World.block_lt_of_cell? _ _ sT)).trans sT⟩ (fun HS => ?_)
                clear hK K sB sK sL sT hb
                refine norm_ (a' := ?_) ?_ ?_; rotate_left
                · show Act.put _ (some 73) _ = _; simp only [Act.put, List.setIfInBounds_toArray, List.set_cons_zero, List.set_cons_succ, i64_w, i32_w]; rfl
                refine pu_ 7 (some 66) (bl_ 12 255) ?_
                refine pu_ 8 (some 74) (bl_ 12 511) ?_
                refine pu_ 9 (some 75) (bl_ 12 1023) ?_
                refine pu_ 10 (some 13) (bl_ 12 2047) ?_
                refine pu_ 11 (some 14) (bl_ 12 4095) ?_
                refine done_ (done_of HT_.out (by kernel_rfl)) ?_
                clear HT_ HW_
                go_wp2_with fail
                refine start_ (n := 12) (S := (fun wX => Below wr.heap.size wr wX ∧ wX.heap[wo.heap.size + 1]? = some (.cells #[.int .i64 5, .string ⟨#[]⟩, .int .i64 0, .bool false, .int .i64 0, .string ⟨#[]⟩, .int .i64 0, .string ⟨#[]⟩, .slice (some ⟨wo.heap.size, 0, none⟩) 1 1] 27 (0, 0)) ∧ wX.heap[wo.heap.size + 1 + 1]? = some (.cells #[.int .i64 (7 - (kk : Int)), .string ⟨#[]⟩, .int .i64 0, .bool false, .int .i64 0, .string ⟨#[]⟩, .int .i64 0, .string ⟨#[]⟩, .slice (some ⟨w3.heap.size + 1, 0, none⟩) 2 2] 27 (0, 0)) ∧ wX.cell? (ad2.add jj) = some (.slice Ar r.length cr))) (ds := []) #[false, false, false, false, false, false, false, false, false, false, false, false] (by kernel_rfl) rfl rfl ⟨below_drew1 HS.1, blk_drew HS.2.1, blk_drew HS.2.2.1, HS.2.2.2⟩ (fun HS => ?_)
                refine with_tabW jn14.tab jn14.bits (fun HT_ HW_ => ?_)
                generalize w7.drew = w8 at *
                refine pu_ 0 (some 77) (bl_ 12 1) ?_
                refine pu_ 2 (some 79) (bl_ 12 5) ?_
                refine pu_ 3 (some 80) (bl_ 12 13) ?_
                refine pu_ 4 (some 81) (bl_ 12 29) ?_
                refine take_ (i := 1) (N := some 78) (v := ?_) (a' := ?_) (bl_ 12 31) rfl rfl (take_ofW HT_.out HW_.out (by kernel_rfl)) (fun _ _ _ h => h) (Or.inl ⟨by rfl, ?_⟩) HS ?_ ?_; rotate_left
                · rintro w' ⟨sB, sK, sL, sT⟩; obtain ⟨hz0, hz1, hz2, hz3, hz4, hz5, hz6, hz7, hz8⟩ := cz9_ sK; obtain ⟨hy0, hy1, hy2, hy3, hy4, hy5, hy6, hy7, hy8⟩ := cz9_ sL; go_simp; with_reducible rfl
                rotate_left
                · simp only [Act.put, List.setIfInBounds_toArray, List.set_cons_zero, List.set_cons_succ, i64_w, i32_w]; rfl
                refine take_ (i := 5) (N := some 82) (v := ?_) (a' := ?_) (bl_ 12 63) rfl rfl (take_ofW HT_.out HW_.out (by kernel_rfl)) (fun _ _ _ h => h) (Or.inl ⟨by rfl, ?_⟩) HS ?_ ?_; rotate_left
                · rintro w' ⟨sB, sK, sL, sT⟩; obtain ⟨hz0, hz1, hz2, hz3, hz4, hz5, hz6, hz7, hz8⟩ := cz9_ sK; obtain ⟨hy0, hy1, hy2, hy3, hy4, hy5, hy6, hy7, hy8⟩ := cz9_ sL; go_simp; with_reducible rfl
                rotate_left
                · simp only [Act.put, List.setIfInBounds_toArray, List.set_cons_zero, List.set_cons_succ, i64_w, i32_w]; rfl
                refine one_ (i := 6) (N := some 83) (bl_ 12 127) rfl rfl (one_of HT_.out (by kernel_rfl)) (by decide) (fun K hK => ?_)
                refine gs_ Try.func22 #[.slice A0 l0.length c0, .agg #[.int .i64 (7 - (kk : Int)), .string ⟨#[]⟩, .int .i64 0, .bool false, .int .i64 0, .string ⟨#[]⟩, .int .i64 0, .string ⟨#[]⟩, .slice (some ⟨w3.heap.size + 1, 0, none⟩) 2 2], .slice Ar r.length cr] ?_
                refine (RB.out _ HS.1).mono ?_
                rintro e w9 ⟨rfl, hb⟩
                refine ⟨_, rfl, ?_⟩
                obtain ⟨sB, sK, sL, sT⟩ := HS
                refine hK.out _ _ ⟨below_step sB hb, blk_below sK hb, blk_below sL hb, (hb.cell (World.block_lt_of_cell? _ _ sT)).trans sT⟩ (fun HS => ?_)
                clear hK K sB sK sL sT hb
                refine norm_ (a' := ?_) ?_ ?_; rotate_left
                · show Act.put _ (some 83) _ = _; simp only [Act.put, List.setIfInBounds_toArray, List.set_cons_zero, List.set_cons_succ, i64_w, i32_w]; rfl
                refine pu_ 7 (some 76) (bl_ 12 255) ?_
                refine pu_ 8 (some 84) (bl_ 12 511) ?_
                refine pu_ 9 (some 85) (bl_ 12 1023) ?_
                refine pu_ 10 (some 15) (bl_ 12 2047) ?_
                refine pu_ 11 (some 16) (bl_ 12 4095) ?_
                refine done_ (done_of HT_.out (by kernel_rfl)) ?_
                clear HT_ HW_
                have BQ9 := Aside0.mk (below_step BQ.out HS.1)
                clear HS RA RB g0
                by_cases ha : ea = 0
                · have ha0 : (ea == 0) = true := beq_iff_eq.2 ha
                  have HA := Aside0.mk ha
                  clear ha
                  by_cases hb : eb = 0
                  · have hb0 : (eb == 0) = true := beq_iff_eq.2 hb
                    have hab := JN.out HA.out hb
                    clear hb JN
                    subst hab
                    have hne : (a != a) = false := bne_eq_false_iff_eq.2 rfl
                    go_wp2_with fail
                    refine (firkinlaw20_num.calls ea ea w9 rfl).mono ?_
                    rintro e w10 ⟨rfl, hd⟩
                    have BQ10 := Aside0.mk (below_step BQ9.out hd.below)
                    clear hd
                    go_wp2_with fail
                    refine (firkinlaw20_num.calls eb eb w10 rfl).mono ?_
                    rintro e w11 ⟨rfl, hd⟩
                    have BQ11 := Aside0.mk (below_step BQ10.out hd.below)
                    clear hd
                    go_wp2
                    go_roundg (l2.length - (jj + 1))
                    case measure => omega
                    case rel => exact ⟨jj + 1, by omega, by omega, (by first | (simp; done) | (simp; rw [wrap_in (by omega) (by omega)])), BQ11⟩
                  · have hb0 : (eb == 0) = false := beq_eq_false_iff_ne.2 hb
                    clear hb JN
                    go_wp2_with fail
                    refine (firkinlaw20_num.calls ea ea w9 rfl).mono ?_
                    rintro e w10 ⟨rfl, hd⟩
                    have BQ10 := Aside0.mk (below_step BQ9.out hd.below)
                    clear hd
                    go_wp2_with fail
                    refine (firkinlaw20_num.calls eb eb w10 rfl).mono ?_
                    rintro e w11 ⟨rfl, hd⟩
                    have BQ11 := Aside0.mk (below_step BQ10.out hd.below)
                    clear hd
                    go_wp2
                    go_roundg (l2.length - (jj + 1))
                    case measure => omega
                    case rel => exact ⟨jj + 1, by omega, by omega, (by first | (simp; done) | (simp; rw [wrap_in (by omega) (by omega)])), BQ11⟩
                · have ha0 : (ea == 0) = false := beq_eq_false_iff_ne.2 ha
                  clear ha JN
                  go_wp2_with fail
                  refine (firkinlaw20_num.calls ea ea w9 rfl).mono ?_
                  rintro e w10 ⟨rfl, hd⟩
                  have BQ10 := Aside0.mk (below_step BQ9.out hd.below)
                  clear hd
                  go_wp2
                  go_roundg (l2.length - (jj + 1))
                  case measure => omega
                  case rel => exact ⟨jj + 1, by omega, by omega, (by first | (simp; done) | (simp; rw [wrap_in (by omega) (by omega)])), BQ10⟩
              · have hltjz : ¬ ((jj : Int) < (l2.length : Int)) := by omega
                go_wp2
                go_roundg (2 - (kk + 1))
                case measure => omega
                case rel => exact ⟨kk + 1, by omega, by omega, (by first | (simp; done) | (simp; rw [wrap_in (by omega) (by omega)])), ⟨below_step HB5.out BQ.out⟩⟩
          · have hltz : ¬ ((kk : Int) < 2) := by omega
            go_wp2_with fail
            have BWW := Aside0.mk (below_step HB4.out BW.out)
            refine (live20_at wr).mono ?_
            rintro e wz ⟨rfl, hb⟩
            have HZ := Aside0.mk (below_step BWW.out hb)
            clear hb
            go_wp2
            rw [HQ.out]
            exact ⟨rfl, HZ.out⟩
end Go.Proofs.Ytdedmhmomoejkaa.X
namespace Go.Proofs.Ytdedmhmomoejkaa.X
open Go.RowKit Go.ChangeShapes Go.WideShapes Go.ChangeAt Go.Proofs.YtdedmhmomoejkaaW.PrintWords
set_option linter.unusedVariables false
theorem okWide_arrJ {P : Program} {w : World} {r : Reach} {base : Nat} {t : TypeId} {v : Value} {n : Nat} {e : TypeId} (ht : P.underlying t = some (.array n e)) (h : Value.okWide P w r base t v) : ∃ cs, v = .agg cs ∧ cs.size = P.cellsOf t := by
  simp only [Value.okWide, ht] at h
  obtain ⟨cs, h1, h2, _⟩ := h
  exact ⟨cs, h1, h2⟩
theorem prog_own : ownKnob Try.prog.godebug = none := by kernel_rfl
theorem prog_laid : laidOutB Try.prog = true := by kernel_rfl
theorem slice_open {w : World} {α : Type} {d : Kd α} {e : Nat} {l : List α} {cs : List Value} (h : (Kd.slice e d).K w l cs) : ∃ A c, cs = [.slice A l.length c] ∧ l.length ≤ c ∧ d.C w A l.length l := h
set_option maxRecDepth 100000 in
theorem evalJoins_lifted (os : Os) (started : os.Started) (H : Type) (enc : TypeId × Value → H) :
    ReturnsInHanded {} Try.checked os 7 .any (Rows.evalJoinsSpec.pre6 enc Try.prog Try.f7 Rows.evalJoinsRow.domain false) (Rows.evalJoinsSpec.post enc Try.prog Try.f7 false true false false) := by
  refine returnsInHanded_of_change_sized (C := Try.checked) prog_own started (by kernel_rfl) Try.func7
    (ChangeSpec.witness6 (enc := enc) (C := Try.checked) false ⟨#[], #[.slice none 0 0, .agg #[.int .i64 0, .string ByteArray.empty, .int .i64 0, .bool false, .int .i64 0, .string ByteArray.empty, .int .i64 0, .string ByteArray.empty, .slice none 0 0, .int .i64 0, .string ByteArray.empty, .int .i64 0, .bool false, .int .i64 0, .string ByteArray.empty, .int .i64 0, .string ByteArray.empty, .slice none 0 0], .slice none 0 0], []⟩ 8 (by kernel_rfl) (by kernel_rfl) (by kernel_rfl) (by kernel_rfl)) ?_
  intro W base args ds gs before hval0 hW hcnd hsz0 _
  have hval : ∀ (j : Nat) t v, Try.f7.params[j]? = some t → args[j]? = some v → Value.okWide Try.prog W .any base t v := hval0
  have hW' := hW
  obtain ⟨p, q, hA0, hV, rfl, hfz, hnd⟩ := hW
  have hA : DataW.TrodAll enc Try.prog W 0 (fun _ => true) true Try.f7.params.toList args.toList ds p := hA0
  rw [Try.params7] at hA hval
  obtain ⟨v0, vs0, d0, ds0, p0, q0, hargs, rfl, rfl, h0, r0⟩ := trodAll_cons hA
  obtain ⟨v1, vs1, d1, ds1, p1, q1, rfl, rfl, rfl, h1, r1⟩ := trodAll_cons r0
  obtain ⟨v2, vs2, d2, ds2, p2, q2, rfl, rfl, rfl, h2, r2⟩ := trodAll_cons r1
  obtain ⟨rfl, rfl, rfl⟩ := trodAll_nil r2
  obtain rfl : args = #[v0, v1, v2] := by cases args; simp_all
  obtain ⟨rfl, rfl⟩ := trodVars_none hV
  obtain ⟨a0, len0, cap0, rfl⟩ := okWide_slice Try.underlying22 (hval 0 22 v0 rfl rfl)
  obtain ⟨cs1, rfl, _⟩ := okWide_arrJ Try.underlying56 (hval 1 56 v1 rfl rfl)
  obtain ⟨a2, len2, cap2, rfl⟩ := okWide_slice Try.underlying44 (hval 2 44 v2 rfl rfl)
  have lt0 : ∀ x ∈ p0, x.block < W.heap.size := by obtain ⟨m, hm⟩ := h0; exact DataW.trod_lt m _ _ _ hm
  have lt1 : ∀ x ∈ p1, x.block < W.heap.size := by obtain ⟨m, hm⟩ := h1; exact DataW.trod_lt m _ _ _ hm
  have lt2 : ∀ x ∈ p2, x.block < W.heap.size := by obtain ⟨m, hm⟩ := h2; exact DataW.trod_lt m _ _ _ hm
  obtain ⟨l0, A0, c0, e0, hc0, hr0⟩ : ∃ (l0 : List S64) (A0 : Option Addr) (c0 : Nat), Value.slice a0 len0 cap0 = .slice A0 l0.length c0 ∧ l0.length ≤ c0 ∧ Kd.C k64 W A0 l0.length l0 := by
    obtain ⟨m, hm⟩ := h0
    obtain ⟨l, hl, _⟩ := (opens_slice Try.underlying22 (by kernel_rfl) (opens64 m)).go H enc W 0 _ true m _ _ (by omega) hm
    obtain ⟨A, c, hcs, hle, hC⟩ := slice_open hl
    exact ⟨l, A, c, by simpa [Value.cells] using hcs, hle, hC⟩
  obtain ⟨l2, A2, c2, e2, hc2, hr2⟩ : ∃ (l2 : List (List S24)) (A2 : Option Addr) (c2 : Nat), Value.slice a2 len2 cap2 = .slice A2 l2.length c2 ∧ l2.length ≤ c2 ∧ Kd.C (Kd.slice 24 k24) W A2 l2.length l2 := by
    obtain ⟨m, hm⟩ := h2
    obtain ⟨l, hl, _⟩ := (opens_slice Try.underlying44 (by kernel_rfl) (opens_slice Try.underlying50 (by kernel_rfl) (opens24 m))).go H enc W 0 _ true m _ _ (by omega) hm
    obtain ⟨A, c, hcs, hle, hC⟩ := slice_open hl
    exact ⟨l, A, c, by simpa [Value.cells] using hcs, hle, hC⟩
  obtain ⟨x, A8, c8, y, A9, c9, e1, hc8, hr8, hc9, hr9⟩ : ∃ (x : S27) (A8 : Option Addr) (c8 : Nat) (y : S27) (A9 : Option Addr) (c9 : Nat), Value.agg cs1 = .agg #[.int .i64 x.f0, .string x.f1, .int .i64 x.f2, .bool x.f3.f0, .int .i64 x.f3.f1, .string x.f3.f2, .int .i64 x.f4, .string x.f5, .slice A8 x.f6.length c8, .int .i64 y.f0, .string y.f1, .int .i64 y.f2, .bool y.f3.f0, .int .i64 y.f3.f1, .string y.f3.f2, .int .i64 y.f4, .string y.f5, .slice A9 y.f6.length c9] ∧ x.f6.length ≤ c8 ∧ Kd.C k27 W A8 x.f6.length x.f6 ∧ y.f6.length ≤ c9 ∧ Kd.C k27 W A9 y.f6.length y.f6 := by
    obtain ⟨m, hm⟩ := h1
    obtain ⟨xs, m', _, _, hlen, hxl, hel⟩ := DataW.trod_array Try.underlying56 hm
    have c27 : Try.prog.cellsOf 27 = 9 := by kernel_rfl
    have c56 : Try.prog.cellsOf 56 = 18 := by kernel_rfl
    rw [c56] at hlen
    have h0 := hel 0 (by omega)
    have h1 := hel 1 (by omega)
    rw [c27, List.getElem?_eq_getElem (by omega)] at h0 h1
    obtain ⟨x, hx, _⟩ := (opens27 m').go H enc W 0 _ true m' _ _ (by omega) h0
    obtain ⟨y, hy, _⟩ := (opens27 m').go H enc W 0 _ true m' _ _ (by omega) h1
    obtain ⟨A, c, hcs, hle, hC⟩ := k27_open hx
    obtain ⟨A', c', hcs', hle', hC'⟩ := k27_open hy
    refine ⟨x, A, c, y, A', c', ?_, hle, hC, hle', hC'⟩
    have hL : cs1.toList.length = 18 := hlen
    have e0 : (cs1.toList.drop (0 * 9)).take 9 = _ := hcs
    have e1 : (cs1.toList.drop (1 * 9)).take 9 = _ := hcs'
    rw [Nat.zero_mul, List.drop_zero] at e0
    rw [Nat.one_mul, List.take_of_length_le (by rw [List.length_drop]; omega)] at e1
    have hh := List.take_append_drop 9 cs1.toList
    rw [e0, e1] at hh
    congr 1
    apply Array.ext'
    exact hh.symm
  rw [e0] at h0
  rw [e1] at h1
  rw [e2] at h2
  rw [e0, e1, e2]
  clear hA0 hval0 hsz0
  refine (evalJoins.calls A0 c0 l0 x A8 c8 y A9 c9 A2 c2 l2 W hr0 hc0 hr8 hc8 hr9 hc9 hr2 hc2).mono fun e W' ⟨he, bel⟩ => ?_
  subst he
  have hb0 := Below.trod prog_laid (by kernel_rfl) (of_decide_eq_true (by kernel_rfl)) h0 bel lt0
  have hb1 := Below.trod prog_laid (by kernel_rfl) (of_decide_eq_true (by kernel_rfl)) h1 bel lt1
  have hb2 := Below.trod prog_laid (by kernel_rfl) (of_decide_eq_true (by kernel_rfl)) h2 bel lt2
  rw [e0, e1, e2] at hW'
  exact ⟨_, rfl, _, _, _, [], _, [], hW', trodAll_mk1 (shut_bool Try.underlying4 _), (trodAll_cons_mk hb0 (trodAll_cons_mk hb1 (trodAll_cons_mk hb2 trodAll_mk0))), rfl, bel.frame _, fun h => by cases h⟩
theorem evalJoins_holds : Rows.EvalJoinsSaid :=
  OpenClaim.holds_of_wide 7 Try.f7 rfl rfl rfl rfl rfl rfl rfl ⟨rfl, rfl, rfl, rfl, rfl⟩ rfl rfl rfl rfl rfl (by kernel_rfl) Try.func7 (by kernel_rfl)
    (of_decide_eq_true (by kernel_rfl)) (by unfold Func.isWrapper; first | (rw [if_pos (by decide +kernel)]; kernel_rfl) | (rw [if_neg (by decide +kernel)]; exact ⟨rfl, rfl⟩))
    (fun os started H enc _ => evalJoins_lifted os started H enc)
end Go.Proofs.Ytdedmhmomoejkaa.X
