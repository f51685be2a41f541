/- Words and walks for pruneAsks_holds, part 10 of the texts that a program of this session laid together. -/
import Derived.Test.YtdedmhmomoejkaaR1
import Derived.Test.YtdedmhmomoejkaaR7
import Derived.Test.YtdedmhmomoejkaaR8
import Derived.Test.YtdedmhmomoejkaaR9
namespace Go.Proofs.Ytdedmhmomoejkaa.X
open Go.RowKit Go.Proofs.YtdedmhmomoejkaaW.PrintWords Go.Proofs.YtdedmhmomoejkaaW.PrintLast
set_option linter.unusedVariables false
set_option linter.unusedSimpArgs false
def flB (x : S27) : Bool :=
  (if x.f0 = 2 then firkinref17_flat.f x.f0 x.f1 x.f2 x.f3.f0 x.f3.f1 x.f3.f2 x.f4 x.f5 [] x.f0 x.f1 x.f2 x.f3.f0 x.f3.f1 x.f3.f2 x.f4 ⟨#[]⟩ [] else
   if x.f0 = 3 then firkinref17_flat.f x.f0 x.f1 x.f2 x.f3.f0 x.f3.f1 x.f3.f2 x.f4 x.f5 [] x.f0 x.f1 0 false 0 ⟨#[]⟩ 0 ⟨#[]⟩ [] else
   if x.f0 = 4 then firkinref17_flat.f x.f0 x.f1 x.f2 x.f3.f0 x.f3.f1 x.f3.f2 x.f4 x.f5 [] x.f0 x.f1 0 false 0 ⟨#[]⟩ 0 x.f5 [] else
   firkinref17_flat.f x.f0 x.f1 x.f2 x.f3.f0 x.f3.f1 x.f3.f2 x.f4 x.f5 [] x.f0 ⟨#[]⟩ 0 false 0 ⟨#[]⟩ 0 ⟨#[]⟩ []).getD false
def opB (x : S27) : Bool :=
  if x.f0 = 1 then true else if x.f0 = 2 then nameB x.f1 && (decide (1 ≤ x.f2) && (decide (x.f2 ≤ 6) && (cell_May.f x.f4 false x.f3.f0 x.f3.f1 x.f3.f2).getD false)) else
  if x.f0 = 3 then nameB x.f1 else if x.f0 = 4 then nameB x.f1 && decide (x.f5.size ≤ 40) else decide (5 ≤ x.f0) && decide (x.f0 ≤ 7)
theorem flat_ans (a0 : Int) (a1 : ByteArray) (a2 : Int) (a3 : Bool) (a4 : Int) (a5 : ByteArray) (a6 : Int) (a7 : ByteArray) (a8 : List S27) (b0 : Int) (b1 : ByteArray) (b2 : Int) (b3 : Bool) (b4 : Int) (b5 : ByteArray) (b6 : Int) (b7 : ByteArray) (b8 : List S27) :
    Ans (firkinref17_flat.f a0 a1 a2 a3 a4 a5 a6 a7 a8 b0 b1 b2 b3 b4 b5 b6 b7 b8) := by
  unfold firkinref17_flat.f
  repeat' (first | exact Ans.some_ _ | refine Ans.ite ?_ ?_)
theorem flat_same (a0 : Int) (a1 : ByteArray) (a2 : Int) (a3 : Bool) (a4 : Int) (a5 : ByteArray) (a6 : Int) (a7 : ByteArray) (a8 a8' : List S27) (b0 : Int) (b1 : ByteArray) (b2 : Int) (b3 : Bool) (b4 : Int) (b5 : ByteArray) (b6 : Int) (b7 : ByteArray) (b8 b8' : List S27) :
    pred_flat.f a0 a1 a2 a3 a4 a5 a6 a7 a8 b0 b1 b2 b3 b4 b5 b6 b7 b8 = firkinref17_flat.f a0 a1 a2 a3 a4 a5 a6 a7 a8' b0 b1 b2 b3 b4 b5 b6 b7 b8' := rfl
theorem fieldsB_eq (x : S27) : fieldsB x = (flB x && opB x) := by
  have hs := fields_some x
  have hm := cellMay_ans x.f4 false x.f3.f0 x.f3.f1 x.f3.f2
  obtain ⟨cm, hcm⟩ := hm
  unfold pred_fields.f pred_bare.f at hs
  unfold flB opB
  rw [hcm]
  by_cases h2 : x.f0 = 2
  · have h1 : ¬ x.f0 = 1 := by omega
    rw [if_pos h2] at hs ⊢
    simp only [Option.bind_some] at hs
    rw [flat_same _ _ _ _ _ _ _ _ _ [] _ _ _ _ _ _ _ _ _ []] at hs
    obtain ⟨f, hf⟩ := flat_ans x.f0 x.f1 x.f2 x.f3.f0 x.f3.f1 x.f3.f2 x.f4 x.f5 [] x.f0 x.f1 x.f2 x.f3.f0 x.f3.f1 x.f3.f2 x.f4 ⟨#[]⟩ []
    rw [hf] at hs ⊢
    rw [if_neg h1, if_pos h2]
    simp only [Option.bind_some, schema_Name.f, hcm, if_neg h1, if_pos h2] at hs
    generalize nameB x.f1 = nb at hs ⊢
    generalize fieldsB x = fb at hs ⊢
    clear hf hcm h1 h2
    by_cases g1 : 1 ≤ x.f2
    · have g1' : x.f2 ≥ 1 := g1
      by_cases g2 : x.f2 ≤ 6
      · simp only [if_pos g1', if_pos g2] at hs
        rw [decide_eq_true g1, decide_eq_true g2]
        clear g1 g2 g1'
        cases f <;> cases nb <;> simp_all
      · simp only [if_pos g1', if_neg g2] at hs
        rw [decide_eq_true g1, decide_eq_false g2]
        clear g1 g2 g1'
        cases f <;> cases nb <;> simp_all
    · have g1' : ¬ x.f2 ≥ 1 := g1
      simp only [if_neg g1'] at hs
      rw [decide_eq_false g1]
      clear g1 g1'
      cases f <;> cases nb <;> simp_all
  by_cases h3 : x.f0 = 3
  · have h1 : ¬ x.f0 = 1 := by omega
    rw [if_neg h2, if_pos h3] at hs ⊢
    simp only [Option.bind_some] at hs
    rw [flat_same _ _ _ _ _ _ _ _ _ [] _ _ _ _ _ _ _ _ _ []] at hs
    obtain ⟨f, hf⟩ := flat_ans x.f0 x.f1 x.f2 x.f3.f0 x.f3.f1 x.f3.f2 x.f4 x.f5 [] x.f0 x.f1 0 false 0 ⟨#[]⟩ 0 ⟨#[]⟩ []
    rw [hf] at hs ⊢
    rw [if_neg h1, if_neg h2, if_pos h3]
    simp only [Option.bind_some, schema_Name.f, hcm, if_neg h1, if_neg h2, if_pos h3] at hs
    generalize nameB x.f1 = nb at hs ⊢
    generalize fieldsB x = fb at hs ⊢
    clear hf hcm h1 h2 h3
    cases f <;> cases nb <;> simp_all
  by_cases h4 : x.f0 = 4
  · have h1 : ¬ x.f0 = 1 := by omega
    rw [if_neg h2, if_neg h3, if_pos h4] at hs ⊢
    simp only [Option.bind_some] at hs
    rw [flat_same _ _ _ _ _ _ _ _ _ [] _ _ _ _ _ _ _ _ _ []] at hs
    obtain ⟨f, hf⟩ := flat_ans x.f0 x.f1 x.f2 x.f3.f0 x.f3.f1 x.f3.f2 x.f4 x.f5 [] x.f0 x.f1 0 false 0 ⟨#[]⟩ 0 x.f5 []
    rw [hf] at hs ⊢
    rw [if_neg h1, if_neg h2, if_neg h3, if_pos h4]
    simp only [Option.bind_some, schema_Name.f, hcm, if_neg h1, if_neg h2, if_neg h3, if_pos h4] at hs
    have e : decide ((x.f5.size : Int) ≤ 40) = decide (x.f5.size ≤ 40) := by
      by_cases g : x.f5.size ≤ 40
      · rw [decide_eq_true g, decide_eq_true (by omega)]
      · rw [decide_eq_false g, decide_eq_false (by omega)]
    rw [e] at hs
    generalize nameB x.f1 = nb at hs ⊢
    generalize fieldsB x = fb at hs ⊢
    clear hf hcm h1 h2 h3 h4 e
    cases f <;> cases nb <;> simp_all
  rw [if_neg h2, if_neg h3, if_neg h4] at hs ⊢
  simp only [Option.bind_some] at hs
  rw [flat_same _ _ _ _ _ _ _ _ _ [] _ _ _ _ _ _ _ _ _ []] at hs
  obtain ⟨f, hf⟩ := flat_ans x.f0 x.f1 x.f2 x.f3.f0 x.f3.f1 x.f3.f2 x.f4 x.f5 [] x.f0 ⟨#[]⟩ 0 false 0 ⟨#[]⟩ 0 ⟨#[]⟩ []
  rw [hf] at hs ⊢
  simp only [Option.bind_some, if_neg h2, if_neg h3, if_neg h4] at hs ⊢
  generalize fieldsB x = fb at hs ⊢
  clear hf hcm
  by_cases h1 : x.f0 = 1
  · cases f <;> simp_all
  · rw [if_neg h1] at hs ⊢
    by_cases g1 : 5 ≤ x.f0
    · have g1' : x.f0 ≥ 5 := g1
      simp only [if_pos g1'] at hs
      rw [decide_eq_true g1]
      clear g1 g1' h1 h2 h3 h4
      cases f <;> simp_all
    · have g1' : ¬ x.f0 ≥ 5 := g1
      simp only [if_neg g1'] at hs
      rw [decide_eq_false g1]
      clear g1 g1' h1 h2 h3 h4
      cases f <;> simp_all
end Go.Proofs.Ytdedmhmomoejkaa.X
namespace Go.Proofs.Ytdedmhmomoejkaa.X
open Go.RowKit Go.Proofs.YtdedmhmomoejkaaW.PrintWords Go.Proofs.YtdedmhmomoejkaaW.PrintLast
set_option linter.unusedVariables false
set_option linter.unusedSimpArgs false
theorem cntL_mem (f : S27 → Option Nat) : ∀ (l : List S27) (c : Nat), cntL f l = some c → ∀ y, y ∈ l → ∃ a, f y = some a
  | [], _, _, y, hy => by cases hy
  | z :: r, c, h, y, hy => by
    obtain ⟨a, ha, h⟩ := Option.bind_eq_some_iff.1 h
    obtain ⟨b, hb, h⟩ := Option.bind_eq_some_iff.1 h
    rcases List.mem_cons.1 hy with rfl | hy
    · exact ⟨a, ha⟩
    · exact cntL_mem f r b hb y hy
def KidsP (d : Nat) (op : Int) (r : List S27) : Prop := ∀ y, y ∈ r → AllL locB d y ∧ (6 ≤ op → ¬ y.f0 = op)
theorem kidsB_iff (op : Int) (ks : List S27) : kidsB op ks = true ↔ (op = 6 ∨ op = 7) ∧ 2 ≤ ks.length ∧ (∀ y, y ∈ ks → ¬ y.f0 = op) ∨ op = 5 ∧ ks.length = 1 ∨ ¬ (op = 6 ∨ op = 7) ∧ ¬ op = 5 ∧ ks = [] := by
  unfold kidsB
  by_cases h : op = 6 ∨ op = 7
  · have h5 : ¬ op = 5 := by omega
    simp [h, h5]
  · by_cases h5 : op = 5
    · subst h5; simp
    · simp [h, h5]
theorem one_at : ∀ (d : Nat) (x : S27), Fine d x → (∃ c, cnt d x = some c) → TotP (fun r => r = true ↔ AllL locB d x) (fun k => firkinref17_one.f k x.f0 x.f1 x.f2 x.f3.f0 x.f3.f1 x.f3.f2 x.f4 x.f5 x.f6) := by
  intro d
  induction d with
  | zero => rintro x _ ⟨c, hc⟩; simp [cnt] at hc
  | succ d ih =>
    rintro x ⟨⟨hlen, hs1, hs5, hs3⟩, hfk⟩ ⟨c, hc⟩
    obtain ⟨a, ha, _⟩ := Option.bind_eq_some_iff.1 hc
    have hkid : ∀ y, y ∈ x.f6 → TotP (fun r => r = true ↔ AllL locB d y) (fun k => firkinref17_one.f k y.f0 y.f1 y.f2 y.f3.f0 y.f3.f1 y.f3.f2 y.f4 y.f5 y.f6) := fun y hy => ih y (hfk y hy) (cntL_mem _ _ _ ha y hy)
    have key : ∀ (r : List S27) (i : Nat), x.f6.drop i = r → i ≤ x.f6.length → TotP (fun t => t = true ↔ KidsP d x.f0 r) (fun k => firkinref17_one.l0 k (i : Int) x.f0 x.f1 x.f2 x.f3.f0 x.f3.f1 x.f3.f2 x.f4 x.f5 x.f6) := by
      intro r
      induction r with
      | nil =>
        intro i hr hi
        have hi' : i = x.f6.length := by
          have := congrArg List.length hr
          simp at this
          omega
        refine TotP.succ (fun k => by simp only [firkinref17_one.l0]; rfl) ?_
        exact TotP.ite (fun h => absurd h (by omega)) (fun _ => TotP.some_ (by simp [KidsP]))
      | cons y r ihr =>
        intro i hr hi
        have hi' : i < x.f6.length := by
          have := congrArg List.length hr
          simp at this
          omega
        have hy : rd_T27 x.f6 (i : Int) = y := by
          have := congrArg List.head? hr
          rw [List.head?_drop] at this
          simp [rd_T27, List.getD_eq_getElem?_getD, this]
        have hr' : x.f6.drop (i + 1) = r := by
          have := congrArg List.tail hr
          simpa using this
        have hmem : y ∈ x.f6 := by rw [← hy]; exact rd27_mem x.f6 i hi'
        refine TotP.succ (fun k => by simp only [firkinref17_one.l0]; rfl) ?_
        refine TotP.ite (fun _ => ?_) (fun h => absurd (by omega) h)
        refine TotP.ite (fun _ => ?_) (fun h => absurd (by omega) h)
        rw [hy, wrap_in (by omega) (by omega), show (i : Int) + 1 = ((i + 1 : Nat) : Int) by omega]
        have next := ihr (i + 1) hr' (by omega)
        refine TotP.bind (hkid y hmem) (fun b hb => ?_)
        refine TotP.ite (fun ht => ?_) (fun ht => TotP.some_ ?_)
        · have hyl := hb.1 ht
          refine TotP.ite (fun h6 => ?_) (fun h6 => ?_)
          · refine TotP.ite (fun he => TotP.some_ ?_) (fun he => ?_)
            · refine ⟨fun h => (by cases h), fun h => absurd he ((h y (by simp)).2 h6)⟩
            · refine next.weak (fun t ht => ht.trans ⟨fun h z hz => ?_, fun h z hz => h z (by simp [hz])⟩)
              rcases List.mem_cons.1 hz with rfl | hz
              · exact ⟨hyl, fun _ => he⟩
              · exact h z hz
          · refine next.weak (fun t ht => ht.trans ⟨fun h z hz => ?_, fun h z hz => h z (by simp [hz])⟩)
            rcases List.mem_cons.1 hz with rfl | hz
            · exact ⟨hyl, fun h => absurd h h6⟩
            · exact h z hz
        · refine ⟨fun h => (by cases h), fun h => absurd (hb.2 (h y (by simp)).1) ht⟩
    have hk0 : TotP (fun t => t = true ↔ KidsP d x.f0 x.f6) (fun k => firkinref17_one.l0 k 0 x.f0 x.f1 x.f2 x.f3.f0 x.f3.f1 x.f3.f2 x.f4 x.f5 x.f6) := by
      have := key x.f6 0 (by simp) (by omega)
      simpa using this
    have hj2 : ∀ b : Bool, TotP (fun t => t = true ↔ b = false ∧ KidsP d x.f0 x.f6) (fun k => firkinref17_one.j2 k b x.f0 x.f1 x.f2 x.f3.f0 x.f3.f1 x.f3.f2 x.f4 x.f5 x.f6) := by
      intro b
      refine TotP.succ (fun k => by simp only [firkinref17_one.j2]; rfl) ?_
      refine TotP.ite (fun h => TotP.some_ (by simp [h])) (fun h => hk0.weak (fun t ht => by rw [ht]; simp [Bool.eq_false_iff.2 h]))
    have hj1 : ∀ (b0 : Int) (b1 : ByteArray) (b2 : Int) (b3 : Bool) (b4 : Int) (b5 : ByteArray) (b6 : Int) (b7 : ByteArray), firkinref17_flat.f x.f0 x.f1 x.f2 x.f3.f0 x.f3.f1 x.f3.f2 x.f4 x.f5 [] b0 b1 b2 b3 b4 b5 b6 b7 [] = some (flB x) →
        TotP (fun t => t = true ↔ (x.f0 < 5 → x.f6 = []) ∧ flB x = true ∧ KidsP d x.f0 x.f6) (fun k => firkinref17_one.j1 k x.f0 x.f1 x.f2 x.f3.f0 x.f3.f1 x.f3.f2 x.f4 x.f5 x.f6 x.f0 x.f1 x.f2 x.f3.f0 x.f3.f1 x.f3.f2 x.f4 x.f5 b0 b1 b2 b3 b4 b5 b6 b7) := by
      intro b0 b1 b2 b3 b4 b5 b6 b7 hf
      refine TotP.succ (fun k => by simp only [firkinref17_one.j1]; rfl) ?_
      rw [hf]
      refine TotP.ite (fun h5 => ?_) (fun h5 => ?_)
      · refine TotP.ite (fun hl => ?_) (fun hl => ?_)
        · refine (hj2 true).weak (fun t ht => ht.trans ?_)
          have : ¬ x.f6 = [] := fun e => by rw [e] at hl; simp at hl
          simp [h5, this]
        · refine TotP.bind (TotP.some_ (P := fun z => z = flB x) rfl) (fun z hz => ?_)
          subst hz
          refine (hj2 _).weak (fun t ht => ht.trans ?_)
          have : x.f6 = [] := List.eq_nil_of_length_eq_zero (by omega)
          simp [this]
      · refine TotP.bind (TotP.some_ (P := fun z => z = flB x) rfl) (fun z hz => ?_)
        subst hz
        refine (hj2 _).weak (fun t ht => ht.trans ?_)
        simp [h5]
    have hfe := fieldsB_eq x
    have bad : locB x = false → TotP (fun r => r = true ↔ AllL locB (d + 1) x) (fun _ => some false) := fun h => TotP.some_ (by simp [AllL, h])
    have noop : opB x = false → locB x = false := fun h => by unfold locB; rw [hfe, h]; simp
    have nokid : kidsB x.f0 x.f6 = false → locB x = false := fun h => by unfold locB; rw [h]; simp
    have fin : opB x = true → ((x.f0 < 5 → x.f6 = []) ∧ KidsP d x.f0 x.f6 ↔ kidsB x.f0 x.f6 = true ∧ ∀ y, y ∈ x.f6 → AllL locB d y) → ∀ t : Bool, (t = true ↔ (x.f0 < 5 → x.f6 = []) ∧ flB x = true ∧ KidsP d x.f0 x.f6) → (t = true ↔ AllL locB (d + 1) x) := by
      intro ho hk t ht
      rw [ht]
      simp only [AllL, locB, hfe, ho, Bool.and_true, Bool.and_eq_true]
      constructor
      · rintro ⟨h1, h2, h3⟩
        obtain ⟨h4, h5⟩ := hk.1 ⟨h1, h3⟩
        exact ⟨⟨h2, h4⟩, h5⟩
      · rintro ⟨⟨h2, h4⟩, h5⟩
        obtain ⟨h1, h3⟩ := hk.2 ⟨h4, h5⟩
        exact ⟨h1, h2, h3⟩
    have leafk : x.f0 < 5 → ((x.f0 < 5 → x.f6 = []) ∧ KidsP d x.f0 x.f6 ↔ kidsB x.f0 x.f6 = true ∧ ∀ y, y ∈ x.f6 → AllL locB d y) := by
      intro h
      rw [kidsB_iff]
      constructor
      · rintro ⟨h1, h2⟩
        exact ⟨.inr (.inr ⟨by omega, by omega, h1 h⟩), fun y hy => (h2 y hy).1⟩
      · rintro ⟨h1, h2⟩
        have : x.f6 = [] := by
          rcases h1 with h1 | h1 | h1
          · omega
          · omega
          · exact h1.2.2
        exact ⟨fun _ => this, fun y hy => ⟨h2 y hy, fun h6 => by omega⟩⟩
    refine TotP.succ (fun k => by simp only [firkinref17_one.f]; rfl) ?_
    refine TotP.ite (fun h1 => ?_) (fun h1 => ?_)
    · obtain ⟨f, hf⟩ := flat_ans x.f0 x.f1 x.f2 x.f3.f0 x.f3.f1 x.f3.f2 x.f4 x.f5 [] x.f0 ⟨#[]⟩ 0 false 0 ⟨#[]⟩ 0 ⟨#[]⟩ []
      have he : flB x = f := by unfold flB; rw [if_neg (by omega), if_neg (by omega), if_neg (by omega), hf]; rfl
      exact (hj1 _ _ _ _ _ _ _ _ (by rw [he]; exact hf)).weak (fin (by unfold opB; rw [if_pos h1]) (leafk (by omega)))
    refine TotP.ite (fun h2 => ?_) (fun h2 => ?_)
    · obtain ⟨f, hf⟩ := flat_ans x.f0 x.f1 x.f2 x.f3.f0 x.f3.f1 x.f3.f2 x.f4 x.f5 [] x.f0 x.f1 x.f2 x.f3.f0 x.f3.f1 x.f3.f2 x.f4 ⟨#[]⟩ []
      have he : flB x = f := by unfold flB; rw [if_pos h2, hf]; rfl
      have ho : opB x = (nameB x.f1 && (decide (1 ≤ x.f2) && (decide (x.f2 ≤ 6) && (cell_May.f x.f4 false x.f3.f0 x.f3.f1 x.f3.f2).getD false))) := by unfold opB; rw [if_neg h1, if_pos h2]
      refine TotP.bind (name12 x.f1 (by omega)) (fun n hn => ?_)
      subst hn
      refine TotP.ite (fun hn => ?_) (fun hn => bad (noop (by rw [ho, Bool.eq_false_iff.2 hn]; rfl)))
      refine TotP.ite (fun g => bad (noop (by rw [ho, decide_eq_false (show ¬ 1 ≤ x.f2 by omega)]; simp))) (fun g1 => ?_)
      refine TotP.ite (fun g => bad (noop (by rw [ho, decide_eq_false (show ¬ x.f2 ≤ 6 by omega)]; simp))) (fun g2 => ?_)
      refine TotP.bind (may09 _ _ _ _ _) (fun m hm => ?_)
      refine TotP.ite (fun hm1 => ?_) (fun hm1 => bad (noop (by rw [ho, hm, Option.getD_some, Bool.eq_false_iff.2 hm1]; simp)))
      exact (hj1 _ _ _ _ _ _ _ _ (by rw [he]; exact hf)).weak (fin (by rw [ho, hn, hm, Option.getD_some, hm1, decide_eq_true (show 1 ≤ x.f2 by omega), decide_eq_true (show x.f2 ≤ 6 by omega)]; rfl) (leafk (by omega)))
    refine TotP.ite (fun h3 => ?_) (fun h3 => ?_)
    · obtain ⟨f, hf⟩ := flat_ans x.f0 x.f1 x.f2 x.f3.f0 x.f3.f1 x.f3.f2 x.f4 x.f5 [] x.f0 x.f1 0 false 0 ⟨#[]⟩ 0 ⟨#[]⟩ []
      have he : flB x = f := by unfold flB; rw [if_neg h2, if_pos h3, hf]; rfl
      have ho : opB x = nameB x.f1 := by unfold opB; rw [if_neg h1, if_neg h2, if_pos h3]
      refine TotP.bind (name12 x.f1 (by omega)) (fun n hn => ?_)
      subst hn
      refine TotP.ite (fun hn => ?_) (fun hn => bad (noop (by rw [ho, Bool.eq_false_iff.2 hn])))
      exact (hj1 _ _ _ _ _ _ _ _ (by rw [he]; exact hf)).weak (fin (by rw [ho, hn]) (leafk (by omega)))
    refine TotP.ite (fun h4 => ?_) (fun h4 => ?_)
    · obtain ⟨f, hf⟩ := flat_ans x.f0 x.f1 x.f2 x.f3.f0 x.f3.f1 x.f3.f2 x.f4 x.f5 [] x.f0 x.f1 0 false 0 ⟨#[]⟩ 0 x.f5 []
      have he : flB x = f := by unfold flB; rw [if_neg h2, if_neg h3, if_pos h4, hf]; rfl
      have ho : opB x = (nameB x.f1 && decide (x.f5.size ≤ 40)) := by unfold opB; rw [if_neg h1, if_neg h2, if_neg h3, if_pos h4]
      refine TotP.bind (name12 x.f1 (by omega)) (fun n hn => ?_)
      subst hn
      refine TotP.ite (fun hn => ?_) (fun hn => bad (noop (by rw [ho, Bool.eq_false_iff.2 hn]; rfl)))
      refine TotP.ite (fun g => bad (noop (by rw [ho, decide_eq_false (show ¬ x.f5.size ≤ 40 by omega)]; simp))) (fun g => ?_)
      exact (hj1 _ _ _ _ _ _ _ _ (by rw [he]; exact hf)).weak (fin (by rw [ho, hn, decide_eq_true (show x.f5.size ≤ 40 by omega)]; rfl) (leafk (by omega)))
    obtain ⟨f, hf⟩ := flat_ans x.f0 x.f1 x.f2 x.f3.f0 x.f3.f1 x.f3.f2 x.f4 x.f5 [] x.f0 ⟨#[]⟩ 0 false 0 ⟨#[]⟩ 0 ⟨#[]⟩ []
    have he : flB x = f := by unfold flB; rw [if_neg h2, if_neg h3, if_neg h4, hf]; rfl
    have ho : opB x = (decide (5 ≤ x.f0) && decide (x.f0 ≤ 7)) := by unfold opB; rw [if_neg h1, if_neg h2, if_neg h3, if_neg h4]
    have hj1' := hj1 _ _ _ _ _ _ _ _ (show firkinref17_flat.f x.f0 x.f1 x.f2 x.f3.f0 x.f3.f1 x.f3.f2 x.f4 x.f5 [] x.f0 ⟨#[]⟩ 0 false 0 ⟨#[]⟩ 0 ⟨#[]⟩ [] = some (flB x) by rw [he]; exact hf)
    refine TotP.ite (fun h5 => ?_) (fun h5 => ?_)
    · refine TotP.ite (fun g => ?_) (fun g => bad (nokid (Bool.eq_false_iff.2 (fun h => ?_))))
      · refine hj1'.weak (fin (by rw [ho, h5]; rfl) ?_)
        rw [kidsB_iff]
        exact ⟨fun h => ⟨.inr (.inl ⟨h5, by omega⟩), fun y hy => (h.2 y hy).1⟩, fun h => ⟨fun h' => by omega, fun y hy => ⟨h.2 y hy, fun h' => by omega⟩⟩⟩
      · rw [kidsB_iff] at h
        omega
    have hj0 : ∀ b : Bool, (b = true → x.f0 = 6 ∨ x.f0 = 7) → (b = false → ¬ (x.f0 = 6 ∨ x.f0 = 7)) → TotP (fun r => r = true ↔ AllL locB (d + 1) x) (fun k => firkinref17_one.j0 k b x.f0 x.f1 x.f2 x.f3.f0 x.f3.f1 x.f3.f2 x.f4 x.f5 x.f6 x.f0 x.f1 x.f2 x.f3.f0 x.f3.f1 x.f3.f2 x.f4 x.f5 x.f0 ⟨#[]⟩ 0 false 0 ⟨#[]⟩ 0 ⟨#[]⟩) := by
      intro b hb hb'
      refine TotP.succ (fun k => by simp only [firkinref17_one.j0]; rfl) ?_
      refine TotP.ite (fun g => ?_) (fun g => bad (noop ?_))
      · have h67 := hb g
        refine TotP.ite (fun g2 => bad (nokid (Bool.eq_false_iff.2 (fun h => ?_)))) (fun g2 => ?_)
        · rw [kidsB_iff] at h
          omega
        · refine hj1'.weak (fin (by rw [ho, decide_eq_true (show 5 ≤ x.f0 by omega), decide_eq_true (show x.f0 ≤ 7 by omega)]; rfl) ?_)
          rw [kidsB_iff]
          refine ⟨fun h => ⟨.inl ⟨h67, by omega, fun y hy => (h.2 y hy).2 (by omega)⟩, fun y hy => (h.2 y hy).1⟩, fun h => ⟨fun h' => by omega, fun y hy => ⟨h.2 y hy, fun _ => ?_⟩⟩⟩
          rcases h.1 with h' | h' | h'
          · exact h'.2.2 y hy
          · omega
          · exact absurd h67 h'.1
      · have := hb' (Bool.eq_false_iff.2 g)
        rw [ho]
        by_cases g1 : 5 ≤ x.f0
        · rw [decide_eq_false (show ¬ x.f0 ≤ 7 by omega)]; simp
        · rw [decide_eq_false g1]; rfl
    refine TotP.ite (fun h6 => hj0 _ (fun _ => .inl h6) (fun h => ?_)) (fun h6 => hj0 _ (fun h => .inr (by simpa using h)) (fun h => ?_))
    · rw [h6] at h; cases h
    · have : ¬ x.f0 = 7 := by simpa using h
      omega
end Go.Proofs.Ytdedmhmomoejkaa.X
namespace Go.Proofs.Ytdedmhmomoejkaa.X
open Go.RowKit Go.Proofs.YtdedmhmomoejkaaW.PrintWords Go.Proofs.YtdedmhmomoejkaaW.PrintLast Go.Proofs.YtdedmhmomoejkaaW.PrintMore
attribute [local go_sem] max2_int max_two
set_option linter.unusedVariables false
set_option linter.unusedSimpArgs false
def firkinref17_May.f (k : Nat) (a0_0 : Int) (a0_1 : ByteArray) (a0_2 : Int) (a0_3 : Bool) (a0_4 : Int) (a0_5 : ByteArray) (a0_6 : Int) (a0_7 : ByteArray) (l0_8 : List (S27)) : Option (Bool) := (firkinref17_size.f k a0_0 a0_1 a0_2 a0_3 a0_4 a0_5 a0_6 a0_7 l0_8 16 6).bind fun t278 => (if t278 ≤ 16 then ((firkinref17_one.f k a0_0 a0_1 a0_2 a0_3 a0_4 a0_5 a0_6 a0_7 l0_8).bind fun t279 => (some t279)) else (some false))
theorem firkinref17_May.mono : ∀ a0 a1 a2 a3 a4 a5 a6 a7 a8 k, LeO (firkinref17_May.f k a0 a1 a2 a3 a4 a5 a6 a7 a8) (firkinref17_May.f (k + 1) a0 a1 a2 a3 a4 a5 a6 a7 a8) := by
 intro a0 a1 a2 a3 a4 a5 a6 a7 a8 k
 unfold firkinref17_May.f
 repeat' first
   | (with_reducible exact firkinref17_one.mono _ _ _ _ _ _ _ _ _ _)
   | (with_reducible exact firkinref17_size.mono _ _ _ _ _ _ _ _ _ _ _ _)
   | (with_reducible exact LeO.refl _)
   | (with_reducible exact LeO.none _)
   | (with_reducible refine LeO.ite ?_ ?_)
   | (with_reducible refine LeO.bind ?_ (fun _ => ?_))
   | exact firkinref17_one.mono _ _ _ _ _ _ _ _ _ _
   | exact firkinref17_size.mono _ _ _ _ _ _ _ _ _ _ _ _
   | exact LeO.none _
   | refine LeO.ite ?_ ?_
   | refine LeO.bind ?_ (fun _ => ?_)
set_option maxHeartbeats 8000000 in
set_option maxRecDepth 100000 in
theorem firkinref17_May.calls (k : Nat) (a0_0 : Int) (a0_1 : ByteArray) (a0_2 : Int) (a0_3 : Bool) (a0_4 : Int) (a0_5 : ByteArray) (a0_6 : Int) (a0_7 : ByteArray) (A0_8 : Option Addr) (c0_8 : Nat) (l0_8 : List (S27)) (r : Bool) (w : World) (hr0_8 : Kd.C k27 w A0_8 l0_8.length l0_8) (hc0_8 : l0_8.length ≤ c0_8) (h : firkinref17_May.f k a0_0 a0_1 a0_2 a0_3 a0_4 a0_5 a0_6 a0_7 l0_8 = some r) :
  Calls Try.prog 54 #[.agg #[.int .i64 a0_0, .string a0_1, .int .i64 a0_2, .bool a0_3, .int .i64 a0_4, .string a0_5, .int .i64 a0_6, .string a0_7, .slice A0_8 l0_8.length c0_8]] w fun e w' => e = .returned (.bool r) ∧ Below w.heap.size w w' := by
 have hu27 := Try.underlying27
 have HR0_8 := Aside0.mk hr0_8
 have HC0_8 := Aside0.mk hc0_8
 clear hr0_8 hc0_8
 have HB := Aside0.mk (Below.refl w.heap.size w)
 have H : ((firkinref17_size.f k a0_0 a0_1 a0_2 a0_3 a0_4 a0_5 a0_6 a0_7 l0_8 16 6).bind fun t278 => (if t278 ≤ 16 then ((firkinref17_one.f k a0_0 a0_1 a0_2 a0_3 a0_4 a0_5 a0_6 a0_7 l0_8).bind fun t279 => (some t279)) else (some false))) = some r := h
 clear h
 replace H := Option.bind_eq_some_iff.mp H
 obtain ⟨t278, A20, H⟩ := H
 replace H : (if t278 ≤ 16 then ((firkinref17_one.f k a0_0 a0_1 a0_2 a0_3 a0_4 a0_5 a0_6 a0_7 l0_8).bind fun t279 => (some t279)) else (some false)) = some r := H
 have A2 := Aside0.mk A20
 clear A20
 by_cases c3 : t278 ≤ 16
 ·rw [if_pos c3] at H
  have c3b0 : decide (t278 ≤ 16) = true := decide_eq_true c3
  clear c3
  replace H := Option.bind_eq_some_iff.mp H
  obtain ⟨t279, A40, H⟩ := H
  replace H : (some t279) = some r := H
  have A4 := Aside0.mk A40
  clear A40
  obtain rfl := Option.some.inj H
  go_enter Try.func54, Try.ntmps54
  go_wp2_with (first | (refine bx_ (N := 1) (cs := #[.int .i64 a0_0, .string a0_1, .int .i64 a0_2, .bool a0_3, .int .i64 a0_4, .string a0_5, .int .i64 a0_6, .string a0_7, .slice A0_8 l0_8.length c0_8]) (t := 27) ?_; intro gb277 hg w5 hbox hb; have BK277 := Aside0.mk (hbox); have GW277 := ge_ HB hg; have GE277 := ge_ HB hg; replace HB := bs_ HB hb; clear hb hbox hg; obtain ⟨C6_0, C6_1, C6_2, C6_3, C6_4, C6_5, C6_6, C6_7, C6_8⟩ := zc9_ BK277.out; obtain ⟨F6_0, F6_1, F6_2, F6_3, F6_4, F6_5, F6_6, F6_7, F6_8⟩ := zf9_ BK277.out) | ((with_reducible refine gate_callee (f := 77) rfl ?_); refine gl_ (some 4) rfl Try.func77 #[.agg #[.int .i64 a0_0, .string a0_1, .int .i64 a0_2, .bool a0_3, .int .i64 a0_4, .string a0_5, .int .i64 a0_6, .string a0_7, .slice A0_8 l0_8.length c0_8], .int .i64 16, .int .i64 6] ?_; (with_reducible refine (firkinref17_size.calls k a0_0 a0_1 a0_2 a0_3 a0_4 a0_5 a0_6 a0_7 _ _ l0_8 16 6 t278 _ ?side1 ?side2 A2.out).mono ?_); (case side1 => repeat (first | exact (Kd.C_below HR0_8.out HB.out) | (with_reducible refine Kd.C_alloc ?_ _) | (with_reducible refine Kd.C_drewN ?_ _) | (with_reducible refine Kd.C_drew ?_))); (case side2 => exact HC0_8.out); rintro e w7 ⟨rfl, hb⟩; refine ⟨_, rfl, ?_⟩;  replace BK277 := bk_ BK277 hb; replace HB := bs_ HB hb; (try clear hb); obtain ⟨C8_0, C8_1, C8_2, C8_3, C8_4, C8_5, C8_6, C8_7, C8_8⟩ := zc9_ BK277.out; obtain ⟨F8_0, F8_1, F8_2, F8_3, F8_4, F8_5, F8_6, F8_7, F8_8⟩ := zf9_ BK277.out) | (go_at_call 78; (with_reducible refine (firkinref17_one.calls k a0_0 a0_1 a0_2 a0_3 a0_4 a0_5 a0_6 a0_7 _ _ l0_8 t279 _ ?side1 ?side2 A4.out).mono ?_); (case side1 => repeat (first | exact (Kd.C_below HR0_8.out HB.out) | (with_reducible refine Kd.C_alloc ?_ _) | (with_reducible refine Kd.C_drewN ?_ _) | (with_reducible refine Kd.C_drew ?_))); (case side2 => exact HC0_8.out); rintro e w9 ⟨rfl, hb⟩;  replace BK277 := bk_ BK277 hb; replace HB := bs_ HB hb; (try clear hb)))
  go_ret
  exact en_ HB
 ·rw [if_neg c3] at H
  have c3b0 : decide (t278 ≤ 16) = false := decide_eq_false c3
  clear c3
  obtain rfl := Option.some.inj H
  go_enter Try.func54, Try.ntmps54
  go_wp2_with (first | (refine bx_ (N := 1) (cs := #[.int .i64 a0_0, .string a0_1, .int .i64 a0_2, .bool a0_3, .int .i64 a0_4, .string a0_5, .int .i64 a0_6, .string a0_7, .slice A0_8 l0_8.length c0_8]) (t := 27) ?_; intro gb277 hg w10 hbox hb; have BK277 := Aside0.mk (hbox); have GW277 := ge_ HB hg; have GE277 := ge_ HB hg; replace HB := bs_ HB hb; clear hb hbox hg; obtain ⟨C11_0, C11_1, C11_2, C11_3, C11_4, C11_5, C11_6, C11_7, C11_8⟩ := zc9_ BK277.out; obtain ⟨F11_0, F11_1, F11_2, F11_3, F11_4, F11_5, F11_6, F11_7, F11_8⟩ := zf9_ BK277.out) | ((with_reducible refine gate_callee (f := 77) rfl ?_); refine gl_ (some 4) rfl Try.func77 #[.agg #[.int .i64 a0_0, .string a0_1, .int .i64 a0_2, .bool a0_3, .int .i64 a0_4, .string a0_5, .int .i64 a0_6, .string a0_7, .slice A0_8 l0_8.length c0_8], .int .i64 16, .int .i64 6] ?_; (with_reducible refine (firkinref17_size.calls k a0_0 a0_1 a0_2 a0_3 a0_4 a0_5 a0_6 a0_7 _ _ l0_8 16 6 t278 _ ?side1 ?side2 A2.out).mono ?_); (case side1 => repeat (first | exact (Kd.C_below HR0_8.out HB.out) | (with_reducible refine Kd.C_alloc ?_ _) | (with_reducible refine Kd.C_drewN ?_ _) | (with_reducible refine Kd.C_drew ?_))); (case side2 => exact HC0_8.out); rintro e w12 ⟨rfl, hb⟩; refine ⟨_, rfl, ?_⟩;  replace BK277 := bk_ BK277 hb; replace HB := bs_ HB hb; (try clear hb)))
  go_ret
  exact en_ HB
end Go.Proofs.Ytdedmhmomoejkaa.X
namespace Go.Proofs.Ytdedmhmomoejkaa.X
open Go.RowKit Go.Proofs.YtdedmhmomoejkaaW.PrintWords Go.Proofs.YtdedmhmomoejkaaW.PrintLast
set_option linter.unusedVariables false
set_option linter.unusedSimpArgs false
theorem may17 (x : S27) (h : Fine 6 x) : TotP (fun r => r = mayB x) (fun k => firkinref17_May.f k x.f0 x.f1 x.f2 x.f3.f0 x.f3.f1 x.f3.f2 x.f4 x.f5 x.f6) := by
  unfold firkinref17_May.f
  have hev := (ev_may 6 x 0 (by omega)).1
  refine TotP.bind (size_at 6 16 x (by omega) (by omega) (Fine.lens 6 x h)) (fun s hs => ?_)
  obtain ⟨h1, h2, h3, h4⟩ := hs
  refine TotP.ite (fun hle => ?_) (fun hle => TotP.some_ ?_)
  · obtain ⟨hc, _⟩ := h3 hle
    refine TotP.bind (one_at 6 x h ⟨_, hc⟩) (fun b hb => TotP.some_ ?_)
    unfold mayB
    have hev' : (ev mayStep 6 x 0).1 = true ↔ ∃ c, cnt 6 x = some c ∧ 0 + c ≤ 16 ∧ AllL locB 6 x := by simpa using hev
    have : b = true ↔ (ev mayStep 6 x 0).1 = true := by
      rw [hb, hev']
      exact ⟨fun hl => ⟨_, hc, by omega, hl⟩, fun ⟨_, _, _, hl⟩ => hl⟩
    cases b <;> cases hq : (ev mayStep 6 x 0).1 <;> simp_all
  · unfold mayB
    have hev' : (ev mayStep 6 x 0).1 = true ↔ ∃ c, cnt 6 x = some c ∧ 0 + c ≤ 16 ∧ AllL locB 6 x := by simpa using hev
    cases hq : (ev mayStep 6 x 0).1 with
    | false => rfl
    | true =>
      obtain ⟨c, hc, hcn, _⟩ := hev'.1 hq
      have := h4 c hc (by omega)
      omega
end Go.Proofs.Ytdedmhmomoejkaa.X
namespace Go.Proofs.Ytdedmhmomoejkaa.X
open Go.RowKit Go.Proofs.YtdedmhmomoejkaaW.PrintWords Go.Proofs.YtdedmhmomoejkaaW.PrintLast Go.Proofs.YtdedmhmomoejkaaW.PrintMore
attribute [local go_sem] max2_int max_two
set_option linter.unusedVariables false
set_option linter.unusedSimpArgs false
mutual
def firkinref12_Check.l0 : Nat → List (S64) → Int → Option (Int)
 | 0, _, _ => none
 | k + 1, x0, x3 => if x3 < (x0.length : Int) then (if 0 ≤ x3 then ((firkinref12_Name.f k ((rd_T64 x0 x3).f0)).bind fun t281 => (if t281 = true then (if ((rd_T64 x0 x3).f1) < 1 then (firkinref12_Check.j1 k x0 x3 true) else (firkinref12_Check.j1 k x0 x3 (decide (((rd_T64 x0 x3).f1) > 3)))) else (firkinref12_Check.j1 k x0 x3 true))) else (none)) else (if (x0.length : Int) = 0 then (some 1) else (if (x0.length : Int) > 6 then (some 4) else (some 0)))
def firkinref12_Check.j1 : Nat → List (S64) → Int → Bool → Option (Int)
 | 0, _, _, _ => none
 | k + 1, x0, x3, x33 => if x33 = true then (some 1) else (firkinref12_Check.l1 k x0 x3 0)
def firkinref12_Check.l1 : Nat → List (S64) → Int → Int → Option (Int)
 | 0, _, _, _ => none
 | k + 1, x0, x3, x4 => if x4 < x3 then (if 0 ≤ x4 then (if x4 < (x0.length : Int) then (if 0 ≤ x3 then (if x3 < (x0.length : Int) then (if ((rd_T64 x0 x4).f0).toList = ((rd_T64 x0 x3).f0).toList then (some 1) else (firkinref12_Check.l1 k x0 x3 (wrap64 (x4 + 1)))) else (none)) else (none)) else (none)) else (none)) else (firkinref12_Check.l0 k x0 (wrap64 (x3 + 1)))
end
def firkinref12_Check.f (k : Nat) (l0 : List (S64)) : Option (Int) := firkinref12_Check.l0 k l0 0
theorem firkinref12_Check.mono_l : ∀ k, (∀ y0 y1, LeO (firkinref12_Check.l0 k y0 y1) (firkinref12_Check.l0 (k + 1) y0 y1)) ∧ (∀ y0 y1 y2, LeO (firkinref12_Check.j1 k y0 y1 y2) (firkinref12_Check.j1 (k + 1) y0 y1 y2)) ∧ (∀ y0 y1 y2, LeO (firkinref12_Check.l1 k y0 y1 y2) (firkinref12_Check.l1 (k + 1) y0 y1 y2))
 | 0 => ⟨fun _ _ r h => by simp [firkinref12_Check.l0] at h, fun _ _ _ r h => by simp [firkinref12_Check.j1] at h, fun _ _ _ r h => by simp [firkinref12_Check.l1] at h⟩
 | k + 1 => by
  obtain ⟨ih0, ih1, ih2⟩ := firkinref12_Check.mono_l k
  refine ⟨?_, ?_, ?_⟩
  ·intro y0 y1
   unfold firkinref12_Check.l0
   repeat' first
   | (with_reducible exact ih0 _ _)
   | (with_reducible exact ih1 _ _ _)
   | (with_reducible exact ih2 _ _ _)
   | (with_reducible exact firkinref12_Name.mono _ _)
   | (with_reducible exact LeO.refl _)
   | (with_reducible exact LeO.none _)
   | (with_reducible refine LeO.ite ?_ ?_)
   | (with_reducible refine LeO.bind ?_ (fun _ => ?_))
   | exact ih0 _ _
   | exact ih1 _ _ _
   | exact ih2 _ _ _
   | exact firkinref12_Name.mono _ _
   | exact LeO.none _
   | refine LeO.ite ?_ ?_
   | refine LeO.bind ?_ (fun _ => ?_)
  ·intro y0 y1 y2
   unfold firkinref12_Check.j1
   repeat' first
   | (with_reducible exact ih0 _ _)
   | (with_reducible exact ih1 _ _ _)
   | (with_reducible exact ih2 _ _ _)
   | (with_reducible exact firkinref12_Name.mono _ _)
   | (with_reducible exact LeO.refl _)
   | (with_reducible exact LeO.none _)
   | (with_reducible refine LeO.ite ?_ ?_)
   | (with_reducible refine LeO.bind ?_ (fun _ => ?_))
   | exact ih0 _ _
   | exact ih1 _ _ _
   | exact ih2 _ _ _
   | exact firkinref12_Name.mono _ _
   | exact LeO.none _
   | refine LeO.ite ?_ ?_
   | refine LeO.bind ?_ (fun _ => ?_)
  ·intro y0 y1 y2
   unfold firkinref12_Check.l1
   repeat' first
   | (with_reducible exact ih0 _ _)
   | (with_reducible exact ih1 _ _ _)
   | (with_reducible exact ih2 _ _ _)
   | (with_reducible exact firkinref12_Name.mono _ _)
   | (with_reducible exact LeO.refl _)
   | (with_reducible exact LeO.none _)
   | (with_reducible refine LeO.ite ?_ ?_)
   | (with_reducible refine LeO.bind ?_ (fun _ => ?_))
   | exact ih0 _ _
   | exact ih1 _ _ _
   | exact ih2 _ _ _
   | exact firkinref12_Name.mono _ _
   | exact LeO.none _
   | refine LeO.ite ?_ ?_
   | refine LeO.bind ?_ (fun _ => ?_)
theorem firkinref12_Check.mono : ∀ a0 k, LeO (firkinref12_Check.f k a0) (firkinref12_Check.f (k + 1) a0) := by
 intro a0 k
 obtain ⟨ih0, ih1, ih2⟩ := firkinref12_Check.mono_l k
 unfold firkinref12_Check.f
 repeat' first
   | (with_reducible exact ih0 _ _)
   | (with_reducible exact ih1 _ _ _)
   | (with_reducible exact ih2 _ _ _)
   | (with_reducible exact firkinref12_Name.mono _ _)
   | (with_reducible exact LeO.refl _)
   | (with_reducible exact LeO.none _)
   | (with_reducible refine LeO.ite ?_ ?_)
   | (with_reducible refine LeO.bind ?_ (fun _ => ?_))
   | exact ih0 _ _
   | exact ih1 _ _ _
   | exact ih2 _ _ _
   | exact firkinref12_Name.mono _ _
   | exact LeO.none _
   | refine LeO.ite ?_ ?_
   | refine LeO.bind ?_ (fun _ => ?_)
set_option maxHeartbeats 8000000 in
set_option maxRecDepth 100000 in
theorem firkinref12_Check.calls (k : Nat) (A0 : Option Addr) (c0 : Nat) (l0 : List (S64)) (r : Int) (w : World) (hr0 : Kd.C k64 w A0 l0.length l0) (hc0 : l0.length ≤ c0) (h : firkinref12_Check.f k l0 = some r) :
  Calls Try.prog 55 #[.slice A0 l0.length c0] w fun e w' => e = .returned (.int .i64 r) ∧ Below w.heap.size w w' := by
 have HR0 := Aside0.mk hr0
 have HC0 := Aside0.mk hc0
 clear hr0 hc0
 have HB := Aside0.mk (Below.refl w.heap.size w)
 have H : (firkinref12_Check.l0 k l0 0) = some r := h
 clear h
 have H' := Aside0.mk H
 clear H
 go_enter Try.func55, Try.ntmps55
 go_wp2
 repeat (go_quiet (fail); try go_wp2)
 go_loopg [3] k (fun kq v3 w' => ∃ (x3_1 : Int), v3 = .int .i64 x3_1 ∧ Aside0 (firkinref12_Check.l0 kq l0 x3_1 = some r) ∧ Aside0 (kq ≤ k) ∧ Aside0 (Below w.heap.size w w'))
 case atStart => exact ⟨(0), (by first | rfl | (simp; done) | (simp [*]; done)), H', ⟨Nat.le_refl _⟩, ⟨by repeat (first | (with_reducible first | exact HB.out | apply below_alloc | apply pw_below_drewN | apply below_drew1) | exact HB.out)⟩⟩
 case round =>
  clear H'
  obtain ⟨x3_1, rfl, HA, HK1, HB⟩ := hrel
  cases gk with
  | zero => exact absurd HA.out (by simp [firkinref12_Check.l0])
  | succ k1 =>
   have H := HA.out
   clear HA
   simp only [firkinref12_Check.l0] at H
   by_cases c2 : x3_1 < (l0.length : Int)
   ·rw [if_pos c2] at H
    have c2b0 : decide (x3_1 < (l0.length : Int)) = true := decide_eq_true c2
    clear c2
    have HC3 := Aside0.mk H
    clear H
    go_upto_region 4 with (fail)
    repeat (go_quiet (fail); go_upto_region 4 with (fail))
    go_cut [33] (fun v33 wc => ∃ (kq : Nat) (x33_2 : Bool), v33 = .bool x33_2 ∧ Aside0 (firkinref12_Check.j1 kq l0 x3_1 x33_2 = some r) ∧ Aside0 (kq ≤ k1) ∧ Aside0 (Below w.heap.size w wc))
    case first =>
     have H := HC3.out
     clear HC3
     by_cases c4 : 0 ≤ x3_1
     ·rw [if_pos c4] at H
      have c4b0 : decide (0 ≤ x3_1) = true := decide_eq_true c4
      clear c4
      (first | rw [c4b0] | (simp only [i64_w, i32_w]; rw [c4b0]) | skip)
      replace H := Option.bind_eq_some_iff.mp H
      obtain ⟨t281, A50, H⟩ := H
      replace H : (if t281 = true then (if ((rd_T64 l0 x3_1).f1) < 1 then (firkinref12_Check.j1 k1 l0 x3_1 true) else (firkinref12_Check.j1 k1 l0 x3_1 (decide (((rd_T64 l0 x3_1).f1) > 3)))) else (firkinref12_Check.j1 k1 l0 x3_1 true)) = some r := H
      have A5 := Aside0.mk A50
      clear A50
      by_cases c6 : t281 = true
      ·subst c6
       have H1 : (if ((rd_T64 l0 x3_1).f1) < 1 then (firkinref12_Check.j1 k1 l0 x3_1 true) else (firkinref12_Check.j1 k1 l0 x3_1 (decide (((rd_T64 l0 x3_1).f1) > 3)))) = some r := by rw [if_pos rfl] at H; exact H
       clear H
       have H := H1
       clear H1
       by_cases c7 : ((rd_T64 l0 x3_1).f1) < 1
       ·rw [if_pos c7] at H
        have c7b0 : decide (((rd_T64 l0 x3_1).f1) < 1) = true := decide_eq_true c7
        clear c7
        have H' := Aside0.mk H
        clear H
        have p280 : 0 ≤ (x3_1 : Int) := dt_
        have q280 : x3_1 < (l0.length : Int) := dt_
        obtain ⟨ad280, e280, hx280_0, hx280_1, hx280_2⟩ := at_T64 HR0.out x3_1 p280 q280
        cases e280
        replace hx280_0 := hc_ HB hx280_0
        replace hx280_1 := hc_ HB hx280_1
        replace hx280_2 := hc_ HB hx280_2
        replace p280 := eq_true p280
        replace q280 := eq_true q280
        go_wp2_with (first | (go_at_call 79; (with_reducible refine (firkinref12_Name.calls k1 ((rd_T64 l0 x3_1).f0) true _ A5.out).mono ?_); rintro e w8 ⟨rfl, hb⟩;  replace HB := bs_ HB hb; (try clear hb); have p282 : 0 ≤ (x3_1 : Int) := dt_; have q282 : x3_1 < (l0.length : Int) := dt_; obtain ⟨ad282, e282, hx282_0, hx282_1, hx282_2⟩ := at_T64 HR0.out x3_1 p282 q282; obtain rfl : ad280 = ad282 := (by injection e282); replace hx282_0 := hc_ HB hx282_0; replace hx282_1 := hc_ HB hx282_1; replace hx282_2 := hc_ HB hx282_2; replace p282 := eq_true p282; replace q282 := eq_true q282))
        repeat (go_quiet (first | (go_at_call 79; (with_reducible refine (firkinref12_Name.calls k1 ((rd_T64 l0 x3_1).f0) true _ A5.out).mono ?_); rintro e w8 ⟨rfl, hb⟩;  replace HB := bs_ HB hb; (try clear hb); have p282 : 0 ≤ (x3_1 : Int) := dt_; have q282 : x3_1 < (l0.length : Int) := dt_; obtain ⟨ad282, e282, hx282_0, hx282_1, hx282_2⟩ := at_T64 HR0.out x3_1 p282 q282; obtain rfl : ad280 = ad282 := (by injection e282); replace hx282_0 := hc_ HB hx282_0; replace hx282_1 := hc_ HB hx282_1; replace hx282_2 := hc_ HB hx282_2; replace p282 := eq_true p282; replace q282 := eq_true q282)); try go_wp2_with (first | (go_at_call 79; (with_reducible refine (firkinref12_Name.calls k1 ((rd_T64 l0 x3_1).f0) true _ A5.out).mono ?_); rintro e w8 ⟨rfl, hb⟩;  replace HB := bs_ HB hb; (try clear hb); have p282 : 0 ≤ (x3_1 : Int) := dt_; have q282 : x3_1 < (l0.length : Int) := dt_; obtain ⟨ad282, e282, hx282_0, hx282_1, hx282_2⟩ := at_T64 HR0.out x3_1 p282 q282; obtain rfl : ad280 = ad282 := (by injection e282); replace hx282_0 := hc_ HB hx282_0; replace hx282_1 := hc_ HB hx282_1; replace hx282_2 := hc_ HB hx282_2; replace p282 := eq_true p282; replace q282 := eq_true q282)))
        go_meet
        case rel => exact ⟨_, (true), (by first | rfl | (simp; done) | (simp [*]; done)), H', ⟨by have := HK1.out; first | omega | exact Nat.le_refl _⟩, ⟨by repeat (first | (with_reducible first | exact HB.out | apply below_alloc | apply pw_below_drewN | apply below_drew1) | exact HB.out)⟩⟩
       ·rw [if_neg c7] at H
        have c7b0 : decide (((rd_T64 l0 x3_1).f1) < 1) = false := decide_eq_false c7
        clear c7
        have H' := Aside0.mk H
        clear H
        have p280 : 0 ≤ (x3_1 : Int) := dt_
        have q280 : x3_1 < (l0.length : Int) := dt_
        obtain ⟨ad280, e280, hx280_0, hx280_1, hx280_2⟩ := at_T64 HR0.out x3_1 p280 q280
        cases e280
        replace hx280_0 := hc_ HB hx280_0
        replace hx280_1 := hc_ HB hx280_1
        replace hx280_2 := hc_ HB hx280_2
        replace p280 := eq_true p280
        replace q280 := eq_true q280
        go_wp2_with (first | (go_at_call 79; (with_reducible refine (firkinref12_Name.calls k1 ((rd_T64 l0 x3_1).f0) true _ A5.out).mono ?_); rintro e w9 ⟨rfl, hb⟩;  replace HB := bs_ HB hb; (try clear hb); have p282 : 0 ≤ (x3_1 : Int) := dt_; have q282 : x3_1 < (l0.length : Int) := dt_; obtain ⟨ad282, e282, hx282_0, hx282_1, hx282_2⟩ := at_T64 HR0.out x3_1 p282 q282; obtain rfl : ad280 = ad282 := (by injection e282); replace hx282_0 := hc_ HB hx282_0; replace hx282_1 := hc_ HB hx282_1; replace hx282_2 := hc_ HB hx282_2; replace p282 := eq_true p282; replace q282 := eq_true q282; have p283 : 0 ≤ (x3_1 : Int) := dt_; have q283 : x3_1 < (l0.length : Int) := dt_; obtain ⟨ad283, e283, hx283_0, hx283_1, hx283_2⟩ := at_T64 HR0.out x3_1 p283 q283; obtain rfl : ad280 = ad283 := (by injection e283); replace hx283_0 := hc_ HB hx283_0; replace hx283_1 := hc_ HB hx283_1; replace hx283_2 := hc_ HB hx283_2; replace p283 := eq_true p283; replace q283 := eq_true q283))
        repeat (go_quiet (first | (go_at_call 79; (with_reducible refine (firkinref12_Name.calls k1 ((rd_T64 l0 x3_1).f0) true _ A5.out).mono ?_); rintro e w9 ⟨rfl, hb⟩;  replace HB := bs_ HB hb; (try clear hb); have p282 : 0 ≤ (x3_1 : Int) := dt_; have q282 : x3_1 < (l0.length : Int) := dt_; obtain ⟨ad282, e282, hx282_0, hx282_1, hx282_2⟩ := at_T64 HR0.out x3_1 p282 q282; obtain rfl : ad280 = ad282 := (by injection e282); replace hx282_0 := hc_ HB hx282_0; replace hx282_1 := hc_ HB hx282_1; replace hx282_2 := hc_ HB hx282_2; replace p282 := eq_true p282; replace q282 := eq_true q282; have p283 : 0 ≤ (x3_1 : Int) := dt_; have q283 : x3_1 < (l0.length : Int) := dt_; obtain ⟨ad283, e283, hx283_0, hx283_1, hx283_2⟩ := at_T64 HR0.out x3_1 p283 q283; obtain rfl : ad280 = ad283 := (by injection e283); replace hx283_0 := hc_ HB hx283_0; replace hx283_1 := hc_ HB hx283_1; replace hx283_2 := hc_ HB hx283_2; replace p283 := eq_true p283; replace q283 := eq_true q283)); try go_wp2_with (first | (go_at_call 79; (with_reducible refine (firkinref12_Name.calls k1 ((rd_T64 l0 x3_1).f0) true _ A5.out).mono ?_); rintro e w9 ⟨rfl, hb⟩;  replace HB := bs_ HB hb; (try clear hb); have p282 : 0 ≤ (x3_1 : Int) := dt_; have q282 : x3_1 < (l0.length : Int) := dt_; obtain ⟨ad282, e282, hx282_0, hx282_1, hx282_2⟩ := at_T64 HR0.out x3_1 p282 q282; obtain rfl : ad280 = ad282 := (by injection e282); replace hx282_0 := hc_ HB hx282_0; replace hx282_1 := hc_ HB hx282_1; replace hx282_2 := hc_ HB hx282_2; replace p282 := eq_true p282; replace q282 := eq_true q282; have p283 : 0 ≤ (x3_1 : Int) := dt_; have q283 : x3_1 < (l0.length : Int) := dt_; obtain ⟨ad283, e283, hx283_0, hx283_1, hx283_2⟩ := at_T64 HR0.out x3_1 p283 q283; obtain rfl : ad280 = ad283 := (by injection e283); replace hx283_0 := hc_ HB hx283_0; replace hx283_1 := hc_ HB hx283_1; replace hx283_2 := hc_ HB hx283_2; replace p283 := eq_true p283; replace q283 := eq_true q283)))
        go_meet
        case rel => exact ⟨_, (decide (((rd_T64 l0 x3_1).f1) > 3)), (by first | rfl | (simp; done) | (simp [*]; done)), H', ⟨by have := HK1.out; first | omega | exact Nat.le_refl _⟩, ⟨by repeat (first | (with_reducible first | exact HB.out | apply below_alloc | apply pw_below_drewN | apply below_drew1) | exact HB.out)⟩⟩
      ·replace c6 := Bool.eq_false_iff.mpr c6
       subst c6
       have H1 : (firkinref12_Check.j1 k1 l0 x3_1 true) = some r := by rw [if_neg (show ¬ (false = true) by decide)] at H; exact H
       clear H
       have H := H1
       clear H1
       have H' := Aside0.mk H
       clear H
       have p280 : 0 ≤ (x3_1 : Int) := dt_
       have q280 : x3_1 < (l0.length : Int) := dt_
       obtain ⟨ad280, e280, hx280_0, hx280_1, hx280_2⟩ := at_T64 HR0.out x3_1 p280 q280
       cases e280
       replace hx280_0 := hc_ HB hx280_0
       replace hx280_1 := hc_ HB hx280_1
       replace hx280_2 := hc_ HB hx280_2
       replace p280 := eq_true p280
       replace q280 := eq_true q280
       go_wp2_with (first | (go_at_call 79; (with_reducible refine (firkinref12_Name.calls k1 ((rd_T64 l0 x3_1).f0) false _ A5.out).mono ?_); rintro e w10 ⟨rfl, hb⟩;  replace HB := bs_ HB hb; (try clear hb)))
       repeat (go_quiet (first | (go_at_call 79; (with_reducible refine (firkinref12_Name.calls k1 ((rd_T64 l0 x3_1).f0) false _ A5.out).mono ?_); rintro e w10 ⟨rfl, hb⟩;  replace HB := bs_ HB hb; (try clear hb))); try go_wp2_with (first | (go_at_call 79; (with_reducible refine (firkinref12_Name.calls k1 ((rd_T64 l0 x3_1).f0) false _ A5.out).mono ?_); rintro e w10 ⟨rfl, hb⟩;  replace HB := bs_ HB hb; (try clear hb))))
       go_meet
       case rel => exact ⟨_, (true), (by first | rfl | (simp; done) | (simp [*]; done)), H', ⟨by have := HK1.out; first | omega | exact Nat.le_refl _⟩, ⟨by repeat (first | (with_reducible first | exact HB.out | apply below_alloc | apply pw_below_drewN | apply below_drew1) | exact HB.out)⟩⟩
     ·rw [if_neg c4] at H
      exact absurd H (by simp)
    case rest =>
     clear HC3
     try clear c2
     try clear c2b0
     try clear p2
     try clear q2
     try clear hx2
     try clear c4
     try clear c4b0
     try clear c5
     try clear c6
     try clear c7
     try clear c7b0
     try clear hx280_0
     try clear hx280_1
     try clear hx280_2
     try clear hx282_0
     try clear hx282_1
     try clear hx282_2
     try clear hx283_0
     try clear hx283_1
     try clear hx283_2
     try clear p280
     try clear p282
     try clear p283
     try clear q280
     try clear q282
     try clear q283
     obtain ⟨kq, x33_2, rfl, HA, HJ2, HB⟩ := hcut
     cases kq with
     | zero => exact absurd HA.out (by simp [firkinref12_Check.j1])
     | succ kj2 =>
      have H := HA.out
      clear HA
      simp only [firkinref12_Check.j1] at H
      by_cases c11 : x33_2 = true
      ·subst c11
       have H1 : (some 1) = some r := by rw [if_pos rfl] at H; exact H
       clear H
       have H := H1
       clear H1
       obtain rfl := Option.some.inj H
       go_wp2
       repeat (go_quiet (fail); try go_wp2)
       go_ret
       exact en_ HB
      ·replace c11 := Bool.eq_false_iff.mpr c11
       subst c11
       have H1 : (firkinref12_Check.l1 kj2 l0 x3_1 0) = some r := by rw [if_neg (show ¬ (false = true) by decide)] at H; exact H
       clear H
       have H := H1
       clear H1
       have H' := Aside0.mk H
       clear H
       go_wp2
       repeat (go_quiet (fail); try go_wp2)
       go_loopg [4] kj2 (fun kq v4 w' => ∃ (x4_3 : Int), v4 = .int .i64 x4_3 ∧ Aside0 (firkinref12_Check.l1 kq l0 x3_1 x4_3 = some r) ∧ Aside0 (kq ≤ kj2) ∧ Aside0 (Below w.heap.size w w'))
       case atStart => exact ⟨(0), (by first | rfl | (simp; done) | (simp [*]; done)), H', ⟨Nat.le_refl _⟩, ⟨by repeat (first | (with_reducible first | exact HB.out | apply below_alloc | apply pw_below_drewN | apply below_drew1) | exact HB.out)⟩⟩
       case round =>
        clear H'
        try clear c1
        try clear c2
        try clear c2b0
        try clear p2
        try clear q2
        try clear hx2
        try clear c4
        try clear c4b0
        try clear c5
        try clear c6
        try clear c7
        try clear c7b0
        try clear c11
        try clear hx280_0
        try clear hx280_1
        try clear hx280_2
        try clear hx282_0
        try clear hx282_1
        try clear hx282_2
        try clear hx283_0
        try clear hx283_1
        try clear hx283_2
        try clear p2
        try clear p280
        try clear p282
        try clear p283
        try clear q2
        try clear q280
        try clear q282
        try clear q283
        obtain ⟨x4_3, rfl, HA, HK3, HB⟩ := hrel
        cases gk with
        | zero => exact absurd HA.out (by simp [firkinref12_Check.l1])
        | succ k3 =>
         have H := HA.out
         clear HA
         simp only [firkinref12_Check.l1] at H
         by_cases c12 : x4_3 < x3_1
         ·rw [if_pos c12] at H
          have c12b0 : decide (x4_3 < x3_1) = true := decide_eq_true c12
          clear c12
          by_cases c13 : 0 ≤ x4_3
          ·rw [if_pos c13] at H
           have c13b0 : decide (0 ≤ x4_3) = true := decide_eq_true c13
           clear c13
           by_cases c14 : x4_3 < (l0.length : Int)
           ·rw [if_pos c14] at H
            have c14b0 : decide (x4_3 < (l0.length : Int)) = true := decide_eq_true c14
            clear c14
            by_cases c15 : 0 ≤ x3_1
            ·rw [if_pos c15] at H
             have c15b0 : decide (0 ≤ x3_1) = true := decide_eq_true c15
             clear c15
             by_cases c16 : x3_1 < (l0.length : Int)
             ·rw [if_pos c16] at H
              have c16b0 : decide (x3_1 < (l0.length : Int)) = true := decide_eq_true c16
              clear c16
              by_cases c17 : ((rd_T64 l0 x4_3).f0).toList = ((rd_T64 l0 x3_1).f0).toList
              ·rw [if_pos c17] at H
               have c17b0 : (((rd_T64 l0 x4_3).f0).toList == ((rd_T64 l0 x3_1).f0).toList) = true := beq_iff_eq.mpr c17
               have c17b1 : (((rd_T64 l0 x4_3).f0).toList != ((rd_T64 l0 x3_1).f0).toList) = false := bne_eq_false_iff_eq.mpr c17
               clear c17
               obtain rfl := Option.some.inj H
               have p284 : 0 ≤ (x4_3 : Int) := dt_
               have q284 : x4_3 < (l0.length : Int) := dt_
               obtain ⟨ad284, e284, hx284_0, hx284_1, hx284_2⟩ := at_T64 HR0.out x4_3 p284 q284
               cases e284
               replace hx284_0 := hc_ HB hx284_0
               replace hx284_1 := hc_ HB hx284_1
               replace hx284_2 := hc_ HB hx284_2
               replace p284 := eq_true p284
               replace q284 := eq_true q284
               have p285 : 0 ≤ (x3_1 : Int) := dt_
               have q285 : x3_1 < (l0.length : Int) := dt_
               obtain ⟨ad285, e285, hx285_0, hx285_1, hx285_2⟩ := at_T64 HR0.out x3_1 p285 q285
               obtain rfl : ad284 = ad285 := (by injection e285)
               replace hx285_0 := hc_ HB hx285_0
               replace hx285_1 := hc_ HB hx285_1
               replace hx285_2 := hc_ HB hx285_2
               replace p285 := eq_true p285
               replace q285 := eq_true q285
               go_wp2
               repeat (go_quiet (fail); try go_wp2)
               go_ret
               exact en_ HB
              ·rw [if_neg c17] at H
               have c17b0 : (((rd_T64 l0 x4_3).f0).toList == ((rd_T64 l0 x3_1).f0).toList) = false := beq_eq_false_iff_ne.mpr c17
               have c17b1 : (((rd_T64 l0 x4_3).f0).toList != ((rd_T64 l0 x3_1).f0).toList) = true := bne_iff_ne.mpr c17
               have H' := Aside0.mk H
               clear H
               have p284 : 0 ≤ (x4_3 : Int) := dt_
               have q284 : x4_3 < (l0.length : Int) := dt_
               obtain ⟨ad284, e284, hx284_0, hx284_1, hx284_2⟩ := at_T64 HR0.out x4_3 p284 q284
               cases e284
               replace hx284_0 := hc_ HB hx284_0
               replace hx284_1 := hc_ HB hx284_1
               replace hx284_2 := hc_ HB hx284_2
               replace p284 := eq_true p284
               replace q284 := eq_true q284
               have p285 : 0 ≤ (x3_1 : Int) := dt_
               have q285 : x3_1 < (l0.length : Int) := dt_
               obtain ⟨ad285, e285, hx285_0, hx285_1, hx285_2⟩ := at_T64 HR0.out x3_1 p285 q285
               obtain rfl : ad284 = ad285 := (by injection e285)
               replace hx285_0 := hc_ HB hx285_0
               replace hx285_1 := hc_ HB hx285_1
               replace hx285_2 := hc_ HB hx285_2
               replace p285 := eq_true p285
               replace q285 := eq_true q285
               go_wp2
               repeat (go_quiet (fail); try go_wp2)
               go_roundg k3
               case measure => have := HK1.out; have := HJ2.out; have := HK3.out; omega
               case rel => exact ⟨(wrap64 (x4_3 + 1)), (by first | rfl | (simp; done) | (simp [*]; done)), H', ⟨by have := HK1.out; have := HJ2.out; have := HK3.out; omega⟩, ⟨by repeat (first | (with_reducible first | exact HB.out | apply below_alloc | apply pw_below_drewN | apply below_drew1) | exact HB.out)⟩⟩
             ·rw [if_neg c16] at H
              exact absurd H (by simp)
            ·rw [if_neg c15] at H
             exact absurd H (by simp)
           ·rw [if_neg c14] at H
            exact absurd H (by simp)
          ·rw [if_neg c13] at H
           exact absurd H (by simp)
         ·rw [if_neg c12] at H
          have c12b0 : decide (x4_3 < x3_1) = false := decide_eq_false c12
          clear c12
          have H' := Aside0.mk H
          clear H
          go_wp2
          repeat (go_quiet (fail); try go_wp2)
          go_roundg k3
          case measure => have := HK1.out; have := HJ2.out; have := HK3.out; omega
          case rel => exact ⟨(wrap64 (x3_1 + 1)), (by first | rfl | (simp; done) | (simp [*]; done)), H', ⟨by have := HK1.out; have := HJ2.out; have := HK3.out; omega⟩, ⟨by repeat (first | (with_reducible first | exact HB.out | apply below_alloc | apply pw_below_drewN | apply below_drew1) | exact HB.out)⟩⟩
   ·rw [if_neg c2] at H
    have c2b0 : decide (x3_1 < (l0.length : Int)) = false := decide_eq_false c2
    clear c2
    by_cases c18 : (l0.length : Int) = 0
    ·rw [if_pos c18] at H
     have c18b0 : ((l0.length : Int) == 0) = true := beq_iff_eq.mpr c18
     have c18b1 : ((l0.length : Int) != 0) = false := bne_eq_false_iff_eq.mpr c18
     clear c18
     obtain rfl := Option.some.inj H
     go_wp2
     repeat (go_quiet (fail); try go_wp2)
     go_ret
     exact en_ HB
    ·rw [if_neg c18] at H
     have c18b0 : ((l0.length : Int) == 0) = false := beq_eq_false_iff_ne.mpr c18
     have c18b1 : ((l0.length : Int) != 0) = true := bne_iff_ne.mpr c18
     have c18b2 : ¬ (l0 = []) := fun h_ => c18 (by rw [h_]; rfl)
     by_cases c19 : (l0.length : Int) > 6
     ·rw [if_pos c19] at H
      have c19b0 : decide (6 < (l0.length : Int)) = true := decide_eq_true c19
      have c19b1 : decide (6 < l0.length) = true := decide_eq_true (by omega)
      clear c19
      obtain rfl := Option.some.inj H
      go_wp2
      repeat (go_quiet (fail); try go_wp2)
      go_ret
      exact en_ HB
     ·rw [if_neg c19] at H
      have c19b0 : decide (6 < (l0.length : Int)) = false := decide_eq_false c19
      have c19b1 : decide (6 < l0.length) = false := decide_eq_false (by omega)
      clear c19
      obtain rfl := Option.some.inj H
      go_wp2
      repeat (go_quiet (fail); try go_wp2)
      go_ret
      exact en_ HB
end Go.Proofs.Ytdedmhmomoejkaa.X
namespace Go.Proofs.Ytdedmhmomoejkaa.X
open Go.RowKit Go.Proofs.YtdedmhmomoejkaaW.PrintWords Go.Proofs.YtdedmhmomoejkaaW.PrintLast
set_option linter.unusedVariables false
set_option linter.unusedSimpArgs false
theorem rd64_get (l : List S64) (i : Nat) (h : i < l.length) : rd_T64 l (i : Int) = l[i] := by
  simp [rd_T64, List.getD_eq_getElem?_getD, List.getElem?_eq_getElem h]
theorem check12 (l : List S64) (hl : l.length ≤ 9223372036854775806) (hs : ∀ y, y ∈ l → y.f0.size ≤ 9223372036854775806) : TotP (fun r => r = checkE l) (fun k => firkinref12_Check.f k l) := by
  have key : ∀ (n i : Nat), i + n = l.length → TotP (fun r => r = if colsOk (l.take i) (l.drop i) = true then (if l.length = 0 then 1 else if 6 < l.length then 4 else 0) else 1) (fun k => firkinref12_Check.l0 k l (i : Int)) := by
    intro n
    induction n with
    | zero =>
      intro i hi
      refine TotP.succ (fun k => by simp only [firkinref12_Check.l0]; rfl) ?_
      have e : l.drop i = [] := List.drop_eq_nil_of_le (by omega)
      rw [e]
      refine TotP.ite (fun h => absurd h (by omega)) (fun _ => ?_)
      refine TotP.ite (fun h => TotP.some_ (by rw [if_pos (by simp [colsOk]), if_pos (by omega)])) (fun h => ?_)
      refine TotP.ite (fun g => TotP.some_ (by rw [if_pos (by simp [colsOk]), if_neg (by omega), if_pos (by omega)])) (fun g => TotP.some_ (by rw [if_pos (by simp [colsOk]), if_neg (by omega), if_neg (by omega)]))
    | succ n ih =>
      intro i hi
      have hlt : i < l.length := by omega
      have hd : l.drop i = l[i] :: l.drop (i + 1) := List.drop_eq_getElem_cons hlt
      have ht : l.take i ++ [l[i]] = l.take (i + 1) := by simp
      have hstep : colsOk (l.take i) (l.drop i) = (colOk (l.take i) l[i] && colsOk (l.take (i + 1)) (l.drop (i + 1))) := by rw [hd, colsOk, ht]
      have l1k : ∀ (m j : Nat), j + m = i → (∀ y, y ∈ l.take j → ¬ y.f0.toList = l[i].f0.toList) → TotP (fun r => (r = 1 ∧ ∃ y, y ∈ l.take i ∧ y.f0.toList = l[i].f0.toList) ∨ ((∀ y, y ∈ l.take i → ¬ y.f0.toList = l[i].f0.toList) ∧ r = if colsOk (l.take (i + 1)) (l.drop (i + 1)) = true then (if l.length = 0 then 1 else if 6 < l.length then 4 else 0) else 1)) (fun k => firkinref12_Check.l1 k l (i : Int) (j : Int)) := by
        intro m
        induction m with
        | zero =>
          intro j hj hall
          obtain rfl : j = i := by omega
          refine TotP.succ (fun k => by simp only [firkinref12_Check.l1]; rfl) ?_
          refine TotP.ite (fun h => absurd h (by omega)) (fun _ => ?_)
          rw [wrap_in (by omega) (by omega), show (j : Int) + 1 = ((j + 1 : Nat) : Int) by omega]
          exact (ih (j + 1) (by omega)).weak (fun r hr => .inr ⟨hall, hr⟩)
        | succ m ihm =>
          intro j hj hall
          have hjl : j < l.length := by omega
          refine TotP.succ (fun k => by simp only [firkinref12_Check.l1]; rfl) ?_
          refine TotP.ite (fun _ => ?_) (fun h => absurd (by omega) h)
          refine TotP.ite (fun _ => ?_) (fun h => absurd (by omega) h)
          refine TotP.ite (fun _ => ?_) (fun h => absurd (by omega) h)
          refine TotP.ite (fun _ => ?_) (fun h => absurd (by omega) h)
          refine TotP.ite (fun _ => ?_) (fun h => absurd (by omega) h)
          rw [rd64_get l j hjl, rd64_get l i hlt]
          refine TotP.ite (fun he => TotP.some_ (.inl ⟨rfl, l[j], ?_, he⟩)) (fun he => ?_)
          · exact List.mem_take_iff_getElem.2 ⟨j, by omega, rfl⟩
          · rw [wrap_in (by omega) (by omega), show (j : Int) + 1 = ((j + 1 : Nat) : Int) by omega]
            refine ihm (j + 1) (by omega) (fun y hy => ?_)
            rw [List.take_succ_eq_append_getElem hjl] at hy
            rcases List.mem_append.1 hy with hy | hy
            · exact hall y hy
            · rw [List.mem_singleton.1 hy]; exact he
      have j1f : ∀ b : Bool, colOk (l.take i) l[i] = (!b && !((l.take i).any fun y => y.f0.toList == l[i].f0.toList)) → TotP (fun r => r = if colsOk (l.take i) (l.drop i) = true then (if l.length = 0 then 1 else if 6 < l.length then 4 else 0) else 1) (fun k => firkinref12_Check.j1 k l (i : Int) b) := by
        intro b hb
        refine TotP.succ (fun k => by simp only [firkinref12_Check.j1]; rfl) ?_
        refine TotP.ite (fun h => TotP.some_ (by rw [hstep, hb, h]; simp)) (fun h => ?_)
        have hbf := Bool.eq_false_iff.2 h
        have := l1k i 0 (by omega) (by simp)
        refine (by simpa using this : TotP _ _).weak (fun r hr => ?_)
        rw [hstep, hb, hbf]
        rcases hr with ⟨h1, y, hy, hye⟩ | ⟨h1, h2⟩
        · have : ((l.take i).any fun y => y.f0.toList == l[i].f0.toList) = true := List.any_eq_true.2 ⟨y, hy, by simpa using hye⟩
          rw [this]; simpa using h1
        · have : ((l.take i).any fun y => y.f0.toList == l[i].f0.toList) = false := List.any_eq_false.2 (fun y hy => by simpa using h1 y hy)
          rw [this]; simpa using h2
      refine TotP.succ (fun k => by simp only [firkinref12_Check.l0]; rfl) ?_
      refine TotP.ite (fun _ => ?_) (fun h => absurd (by omega) h)
      refine TotP.ite (fun _ => ?_) (fun h => absurd (by omega) h)
      rw [rd64_get l i hlt]
      refine TotP.bind (name12 _ (hs _ (List.getElem_mem hlt))) (fun nm hnm => ?_)
      subst hnm
      refine TotP.ite (fun hn => ?_) (fun hn => j1f true (by unfold colOk; rw [Bool.eq_false_iff.2 hn]; simp))
      refine TotP.ite (fun g => j1f true (by unfold colOk; have : ¬ (1 ≤ l[i].f1) := by omega
                                             simp [this])) (fun g => j1f _ ?_)
      unfold colOk
      by_cases g3 : l[i].f1 ≤ 3
      · have e1 : 1 ≤ l[i].f1 := by omega
        have e2 : ¬ l[i].f1 > 3 := by omega
        simp [hn, e1, e2, g3]
      · have e2 : l[i].f1 > 3 := by omega
        simp [hn, e2, g3]
  have := key l.length 0 (by omega)
  unfold firkinref12_Check.f
  refine (by simpa using this : TotP _ _).weak (fun r hr => ?_)
  rw [hr]
  unfold checkE
  by_cases h0 : l = []
  · subst h0; simp [colsOk]
  · have : ¬ l.length = 0 := fun e => h0 (List.eq_nil_of_length_eq_zero e)
    simp [this, h0]
end Go.Proofs.Ytdedmhmomoejkaa.X
namespace Go.Proofs.Ytdedmhmomoejkaa.X
open Go.RowKit Go.Proofs.YtdedmhmomoejkaaW.PrintWords Go.Proofs.YtdedmhmomoejkaaW.PrintLast Go.Proofs.YtdedmhmomoejkaaW.PrintMore
attribute [local go_sem] max2_int max_two
set_option linter.unusedVariables false
set_option linter.unusedSimpArgs false
def firkinref12_Find.l0 : Nat → List (S64) → ByteArray → Int → Option (Int)
 | 0, _, _, _ => none
 | k + 1, x0, x1, x5 => if x5 < (x0.length : Int) then (if 0 ≤ x5 then (if ((rd_T64 x0 x5).f0).toList = x1.toList then (some x5) else (firkinref12_Find.l0 k x0 x1 (wrap64 (x5 + 1)))) else (none)) else (some (-1))
def firkinref12_Find.f (k : Nat) (l0 : List (S64)) (a1 : ByteArray) : Option (Int) := firkinref12_Find.l0 k l0 a1 0
theorem firkinref12_Find.mono_l : ∀ k, (∀ y0 y1 y2, LeO (firkinref12_Find.l0 k y0 y1 y2) (firkinref12_Find.l0 (k + 1) y0 y1 y2))
 | 0 => fun _ _ _ r h => by simp [firkinref12_Find.l0] at h
 | k + 1 => by
  have ih0 := firkinref12_Find.mono_l k
  ·intro y0 y1 y2
   unfold firkinref12_Find.l0
   repeat' first
   | (with_reducible exact ih0 _ _ _)
   | (with_reducible exact LeO.refl _)
   | (with_reducible exact LeO.none _)
   | (with_reducible refine LeO.ite ?_ ?_)
   | (with_reducible refine LeO.bind ?_ (fun _ => ?_))
   | exact ih0 _ _ _
   | exact LeO.none _
   | refine LeO.ite ?_ ?_
   | refine LeO.bind ?_ (fun _ => ?_)
theorem firkinref12_Find.mono : ∀ a0 a1 k, LeO (firkinref12_Find.f k a0 a1) (firkinref12_Find.f (k + 1) a0 a1) := by
 intro a0 a1 k
 have ih0 := firkinref12_Find.mono_l k
 unfold firkinref12_Find.f
 repeat' first
   | (with_reducible exact ih0 _ _ _)
   | (with_reducible exact LeO.refl _)
   | (with_reducible exact LeO.none _)
   | (with_reducible refine LeO.ite ?_ ?_)
   | (with_reducible refine LeO.bind ?_ (fun _ => ?_))
   | exact ih0 _ _ _
   | exact LeO.none _
   | refine LeO.ite ?_ ?_
   | refine LeO.bind ?_ (fun _ => ?_)
set_option maxHeartbeats 8000000 in
set_option maxRecDepth 100000 in
theorem firkinref12_Find.calls (k : Nat) (A0 : Option Addr) (c0 : Nat) (l0 : List (S64)) (a1 : ByteArray) (r : Int) (w : World) (hr0 : Kd.C k64 w A0 l0.length l0) (hc0 : l0.length ≤ c0) (h : firkinref12_Find.f k l0 a1 = some r) :
  Calls Try.prog 36 #[.slice A0 l0.length c0, .string a1] w fun e w' => e = .returned (.int .i64 r) ∧ Drawn0 w w' := by
 have HR0 := Aside0.mk hr0
 have HC0 := Aside0.mk hc0
 clear hr0 hc0
 have H : (firkinref12_Find.l0 k l0 a1 0) = some r := h
 clear h
 have H' := Aside0.mk H
 clear H
 go_enter Try.func36, Try.ntmps36
 go_wp2
 go_loopg [5] k (fun kq v5 w' => ∃ (x5_1 : Int), v5 = .int .i64 x5_1 ∧ Aside0 (firkinref12_Find.l0 kq l0 a1 x5_1 = some r) ∧ Aside0 (kq ≤ k) ∧ Drawn0 w w')
 case atStart => exact ⟨(0), (by first | rfl | (simp; done) | (simp [*]; done)), H', ⟨Nat.le_refl _⟩, by repeat (first | exact Drawn0.refl _ | apply Drawn0.step)⟩
 case round =>
  clear H'
  try clear p2
  obtain ⟨x5_1, rfl, HA, HK1, ⟨m1, rfl⟩⟩ := hrel
  cases gk with
  | zero => exact absurd HA.out (by simp [firkinref12_Find.l0])
  | succ k1 =>
   have H := HA.out
   clear HA
   simp only [firkinref12_Find.l0] at H
   by_cases c3 : x5_1 < (l0.length : Int)
   ·rw [if_pos c3] at H
    have c3b0 : decide (x5_1 < (l0.length : Int)) = true := decide_eq_true c3
    clear c3
    by_cases c4 : 0 ≤ x5_1
    ·rw [if_pos c4] at H
     have c4b0 : decide (0 ≤ x5_1) = true := decide_eq_true c4
     clear c4
     by_cases c5 : ((rd_T64 l0 x5_1).f0).toList = a1.toList
     ·rw [if_pos c5] at H
      have c5b0 : (((rd_T64 l0 x5_1).f0).toList == a1.toList) = true := beq_iff_eq.mpr c5
      have c5b1 : (((rd_T64 l0 x5_1).f0).toList != a1.toList) = false := bne_eq_false_iff_eq.mpr c5
      clear c5
      obtain rfl := Option.some.inj H
      have p286 : 0 ≤ (x5_1 : Int) := dt_
      have q286 : x5_1 < (l0.length : Int) := dt_
      obtain ⟨ad286, e286, hx286_0, hx286_1, hx286_2⟩ := at_T64 HR0.out x5_1 p286 q286
      cases e286
      replace p286 := eq_true p286
      replace q286 := eq_true q286
      go_wp2
      go_ret
      exact ⟨by first | rfl | (simp; done) | (simp [*]; done), by repeat (first | exact Drawn0.refl _ | apply Drawn0.step)⟩
     ·rw [if_neg c5] at H
      have c5b0 : (((rd_T64 l0 x5_1).f0).toList == a1.toList) = false := beq_eq_false_iff_ne.mpr c5
      have c5b1 : (((rd_T64 l0 x5_1).f0).toList != a1.toList) = true := bne_iff_ne.mpr c5
      have H' := Aside0.mk H
      clear H
      have p286 : 0 ≤ (x5_1 : Int) := dt_
      have q286 : x5_1 < (l0.length : Int) := dt_
      obtain ⟨ad286, e286, hx286_0, hx286_1, hx286_2⟩ := at_T64 HR0.out x5_1 p286 q286
      cases e286
      replace p286 := eq_true p286
      replace q286 := eq_true q286
      go_wp2
      go_roundg k1
      case measure => have := HK1.out; omega
      case rel => exact ⟨(wrap64 (x5_1 + 1)), (by first | rfl | (simp; done) | (simp [*]; done)), H', ⟨by have := HK1.out; omega⟩, by repeat (first | exact Drawn0.refl _ | apply Drawn0.step)⟩
    ·rw [if_neg c4] at H
     exact absurd H (by simp)
   ·rw [if_neg c3] at H
    have c3b0 : decide (x5_1 < (l0.length : Int)) = false := decide_eq_false c3
    clear c3
    obtain rfl := Option.some.inj H
    go_wp2
    go_ret
    exact ⟨by first | rfl | (simp; done) | (simp [*]; done), by repeat (first | exact Drawn0.refl _ | apply Drawn0.step)⟩
end Go.Proofs.Ytdedmhmomoejkaa.X
