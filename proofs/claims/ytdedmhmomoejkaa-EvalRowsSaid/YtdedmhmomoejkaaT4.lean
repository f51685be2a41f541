/- Words and walks for evalRows_holds, part 4 of the texts that a program of this session laid together. -/
import Derived.Test.YtdedmhmomoejkaaT2
import Derived.Test.YtdedmhmomoejkaaT3
namespace Go.Proofs.Ytdedmhmomoejkaa.X
open Go.RowKit Go.Proofs.YtdedmhmomoejkaaW.PrintWords Go.Proofs.YtdedmhmomoejkaaW.PrintLast Go.Proofs.YtdedmhmomoejkaaW.PrintMore
attribute [local go_sem] max2_int max_two
set_option linter.unusedVariables false
set_option linter.unusedSimpArgs false
def cmp_isNaN_string.f (a0 : ByteArray) : Option (Bool) := some (a0.toList != a0.toList)
set_option maxHeartbeats 8000000 in
set_option maxRecDepth 100000 in
theorem cmp_isNaN_string.calls (a0 : ByteArray) (r : Bool) (w : World) (h : cmp_isNaN_string.f a0 = some r) :
  Calls Try.prog 96 #[.string a0] w fun e w' => e = .returned (.bool r) ∧ Drawn0 w w' := by
 have H : (some (a0.toList != a0.toList)) = some r := h
 clear h
 obtain rfl := Option.some.inj H
 go_enter Try.func96, Try.ntmps96
 go_wp2
 go_ret
 exact ⟨by first | rfl | (simp; done) | (simp [*]; done), by repeat (first | exact Drawn0.refl _ | apply Drawn0.step)⟩
end Go.Proofs.Ytdedmhmomoejkaa.X
namespace Go.Proofs.Ytdedmhmomoejkaa.X
open Go.RowKit Go.Proofs.YtdedmhmomoejkaaW.PrintWords Go.Proofs.YtdedmhmomoejkaaW.PrintLast Go.Proofs.YtdedmhmomoejkaaW.PrintMore
attribute [local go_sem] max2_int max_two
set_option linter.unusedVariables false
set_option linter.unusedSimpArgs false
def cmp_Compare_string.f (a0 : ByteArray) (a1 : ByteArray) : Option (Int) := (cmp_isNaN_string.f a0).bind fun t138 => ((cmp_isNaN_string.f a1).bind fun t139 => (if t138 = true then (if t139 = true then (some 0) else (some (-1))) else (if t139 = true then (some 1) else (if (Op.bytesLess a0.toList a1.toList) = true then (some (-1)) else (if a0.toList = a1.toList then (some 0) else (some 1))))))
set_option maxHeartbeats 8000000 in
set_option maxRecDepth 100000 in
theorem cmp_Compare_string.calls (a0 : ByteArray) (a1 : ByteArray) (r : Int) (w : World) (h : cmp_Compare_string.f a0 a1 = some r) :
  Calls Try.prog 74 #[.string a0, .string a1] w fun e w' => e = .returned (.int .i64 r) ∧ Drawn0 w w' := by
 have H : ((cmp_isNaN_string.f a0).bind fun t138 => ((cmp_isNaN_string.f a1).bind fun t139 => (if t138 = true then (if t139 = true then (some 0) else (some (-1))) else (if t139 = true then (some 1) else (if (Op.bytesLess a0.toList a1.toList) = true then (some (-1)) else (if a0.toList = a1.toList then (some 0) else (some 1))))))) = some r := h
 clear h
 replace H := Option.bind_eq_some_iff.mp H
 obtain ⟨t138, A30, H⟩ := H
 replace H : ((cmp_isNaN_string.f a1).bind fun t139 => (if t138 = true then (if t139 = true then (some 0) else (some (-1))) else (if t139 = true then (some 1) else (if (Op.bytesLess a0.toList a1.toList) = true then (some (-1)) else (if a0.toList = a1.toList then (some 0) else (some 1)))))) = some r := H
 have A3 := Aside0.mk A30
 clear A30
 replace H := Option.bind_eq_some_iff.mp H
 obtain ⟨t139, A40, H⟩ := H
 replace H : (if t138 = true then (if t139 = true then (some 0) else (some (-1))) else (if t139 = true then (some 1) else (if (Op.bytesLess a0.toList a1.toList) = true then (some (-1)) else (if a0.toList = a1.toList then (some 0) else (some 1))))) = some r := H
 have A4 := Aside0.mk A40
 clear A40
 by_cases c5 : t138 = true
 ·subst c5
  have H1 : (if t139 = true then (some 0) else (some (-1))) = some r := by rw [if_pos rfl] at H; exact H
  clear H
  have H := H1
  clear H1
  by_cases c6 : t139 = true
  ·subst c6
   have H1 : (some 0) = some r := by rw [if_pos rfl] at H; exact H
   clear H
   have H := H1
   clear H1
   obtain rfl := Option.some.inj H
   go_enter Try.func74, Try.ntmps74
   go_wp2_with (first | ((with_reducible refine gate_callee (f := 96) rfl ?_); refine gl_ (some 8) rfl Try.func96 #[.string a0] ?_; (with_reducible refine (cmp_isNaN_string.calls a0 true _ A3.out).mono ?_); rintro e w' ⟨rfl, ⟨nd, rfl⟩⟩; refine ⟨_, rfl, ?_⟩) | ((with_reducible refine gate_callee (f := 96) rfl ?_); refine gl_ (some 10) rfl Try.func96 #[.string a1] ?_; (with_reducible refine (cmp_isNaN_string.calls a1 true _ A4.out).mono ?_); rintro e w' ⟨rfl, ⟨nd, rfl⟩⟩; refine ⟨_, rfl, ?_⟩))
   go_ret
   exact ⟨by first | rfl | (simp; done) | (simp [*]; done), by repeat (first | exact Drawn0.refl _ | apply Drawn0.step)⟩
  ·replace c6 := Bool.eq_false_iff.mpr c6
   subst c6
   have H1 : (some (-1)) = some r := by rw [if_neg (show ¬ (false = true) by decide)] at H; exact H
   clear H
   have H := H1
   clear H1
   obtain rfl := Option.some.inj H
   go_enter Try.func74, Try.ntmps74
   go_wp2_with (first | ((with_reducible refine gate_callee (f := 96) rfl ?_); refine gl_ (some 8) rfl Try.func96 #[.string a0] ?_; (with_reducible refine (cmp_isNaN_string.calls a0 true _ A3.out).mono ?_); rintro e w' ⟨rfl, ⟨nd, rfl⟩⟩; refine ⟨_, rfl, ?_⟩) | ((with_reducible refine gate_callee (f := 96) rfl ?_); refine gl_ (some 10) rfl Try.func96 #[.string a1] ?_; (with_reducible refine (cmp_isNaN_string.calls a1 false _ A4.out).mono ?_); rintro e w' ⟨rfl, ⟨nd, rfl⟩⟩; refine ⟨_, rfl, ?_⟩))
   go_ret
   exact ⟨by first | rfl | (simp; done) | (simp [*]; done), by repeat (first | exact Drawn0.refl _ | apply Drawn0.step)⟩
 ·replace c5 := Bool.eq_false_iff.mpr c5
  subst c5
  have H1 : (if t139 = true then (some 1) else (if (Op.bytesLess a0.toList a1.toList) = true then (some (-1)) else (if a0.toList = a1.toList then (some 0) else (some 1)))) = some r := by rw [if_neg (show ¬ (false = true) by decide)] at H; exact H
  clear H
  have H := H1
  clear H1
  by_cases c7 : t139 = true
  ·subst c7
   have H1 : (some 1) = some r := by rw [if_pos rfl] at H; exact H
   clear H
   have H := H1
   clear H1
   obtain rfl := Option.some.inj H
   go_enter Try.func74, Try.ntmps74
   go_wp2_with (first | ((with_reducible refine gate_callee (f := 96) rfl ?_); refine gl_ (some 8) rfl Try.func96 #[.string a0] ?_; (with_reducible refine (cmp_isNaN_string.calls a0 false _ A3.out).mono ?_); rintro e w' ⟨rfl, ⟨nd, rfl⟩⟩; refine ⟨_, rfl, ?_⟩) | ((with_reducible refine gate_callee (f := 96) rfl ?_); refine gl_ (some 10) rfl Try.func96 #[.string a1] ?_; (with_reducible refine (cmp_isNaN_string.calls a1 true _ A4.out).mono ?_); rintro e w' ⟨rfl, ⟨nd, rfl⟩⟩; refine ⟨_, rfl, ?_⟩))
   go_ret
   exact ⟨by first | rfl | (simp; done) | (simp [*]; done), by repeat (first | exact Drawn0.refl _ | apply Drawn0.step)⟩
  ·replace c7 := Bool.eq_false_iff.mpr c7
   subst c7
   have H1 : (if (Op.bytesLess a0.toList a1.toList) = true then (some (-1)) else (if a0.toList = a1.toList then (some 0) else (some 1))) = some r := by rw [if_neg (show ¬ (false = true) by decide)] at H; exact H
   clear H
   have H := H1
   clear H1
   by_cases c8 : (Op.bytesLess a0.toList a1.toList) = true
   rotate_left
   focus
    rw [if_neg c8] at H
    have c8b0 : (Op.bytesLess a0.toList a1.toList) = false := by simpa using c8
    clear c8
    by_cases c9 : a0.toList = a1.toList
    rotate_left
    focus
     rw [if_neg c9] at H
     have c9b0 : (a0.toList == a1.toList) = false := beq_eq_false_iff_ne.mpr c9
     have c9b1 : (a0.toList != a1.toList) = true := bne_iff_ne.mpr c9
    rotate_right
    focus
     rw [if_pos c9] at H
     have c9b0 : (a0.toList == a1.toList) = true := beq_iff_eq.mpr c9
     have c9b1 : (a0.toList != a1.toList) = false := bne_eq_false_iff_eq.mpr c9
     clear c9
   rotate_right
   focus
    rw [if_pos c8] at H
    have c8b0 : (Op.bytesLess a0.toList a1.toList) = true := c8
    clear c8
   all_goals
    obtain rfl := Option.some.inj H
    go_enter Try.func74, Try.ntmps74
    go_wp2_with (first | ((with_reducible refine gate_callee (f := 96) rfl ?_); refine gl_ (some 8) rfl Try.func96 #[.string a0] ?_; (with_reducible refine (cmp_isNaN_string.calls a0 false _ A3.out).mono ?_); rintro e w' ⟨rfl, ⟨nd, rfl⟩⟩; refine ⟨_, rfl, ?_⟩) | ((with_reducible refine gate_callee (f := 96) rfl ?_); refine gl_ (some 10) rfl Try.func96 #[.string a1] ?_; (with_reducible refine (cmp_isNaN_string.calls a1 false _ A4.out).mono ?_); rintro e w' ⟨rfl, ⟨nd, rfl⟩⟩; refine ⟨_, rfl, ?_⟩))
    go_ret
    exact ⟨by first | rfl | (simp; done) | (simp [*]; done), by repeat (first | exact Drawn0.refl _ | apply Drawn0.step)⟩
end Go.Proofs.Ytdedmhmomoejkaa.X
namespace Go.Proofs.Ytdedmhmomoejkaa.X
open Go.RowKit Go.Proofs.YtdedmhmomoejkaaW.PrintWords Go.Proofs.YtdedmhmomoejkaaW.PrintLast
set_option linter.unusedVariables false
set_option linter.unusedSimpArgs false
theorem Ev.const {α : Type} {o : Option α} {r : α} (h : o = some r) : Ev (fun _ => o) r := ⟨0, fun _ _ => h⟩
def Tot {α : Type} (g : Nat → Option α) : Prop := ∃ r, Ev g r
theorem Tot.some_ {α : Type} (r : α) : Tot (fun _ => some r) := ⟨r, Ev.now r⟩
theorem Tot.const {α : Type} {o : Option α} (h : Ans o) : Tot (fun _ => o) := by
  obtain ⟨r, h⟩ := h
  exact ⟨r, Ev.const h⟩
theorem Tot.ite {α : Type} {c : Prop} [Decidable c] {f g : Nat → Option α} (h : c → Tot f) (h' : ¬ c → Tot g) : Tot (fun k => if c then f k else g k) := by
  by_cases hc : c
  · simp only [if_pos hc]; exact h hc
  · simp only [if_neg hc]; exact h' hc
theorem Tot.bind {α β : Type} {g : Nat → Option α} {f : Nat → α → Option β} (h : Tot g) (k : ∀ x, Tot (fun n => f n x)) : Tot (fun n => (g n).bind (f n)) := by
  obtain ⟨x, hx⟩ := h
  obtain ⟨r, hr⟩ := k x
  exact ⟨r, Ev.bind hx hr⟩
theorem Tot.succ {α : Type} {g f : Nat → Option α} (h : ∀ k, g (k + 1) = f k) (k : Tot f) : Tot g := by
  obtain ⟨r, hr⟩ := k
  exact ⟨r, Ev.step h hr⟩
def cmpI (a b : Int) : Int := if a < b then -1 else if a > b then 1 else 0
def cmpT (a b : ByteArray) : Int := if Op.bytesLess a.toList b.toList = true then -1 else if a.toList = b.toList then 0 else 1
theorem cmpI_f (a b : Int) : cmp_Compare_int.f a b = some (cmpI a b) := by
  simp only [cmp_Compare_int.f, cmp_isNaN_int.f, Option.bind_some, bne_self_eq_false, cmpI]
  simp
  split <;> simp_all
  split <;> simp_all
theorem cmpI64_f (a b : Int) : cmp_Compare_int64.f a b = some (cmpI a b) := by
  simp only [cmp_Compare_int64.f, cmp_isNaN_int64.f, Option.bind_some, bne_self_eq_false, cmpI]
  simp
  split <;> simp_all
  split <;> simp_all
theorem cmpT_f (a b : ByteArray) : cmp_Compare_string.f a b = some (cmpT a b) := by
  simp only [cmp_Compare_string.f, cmp_isNaN_string.f, Option.bind_some, bne_self_eq_false, cmpT]
  simp
  split <;> simp_all
  split <;> simp_all
def flagI (b : Bool) : Int := if b then 0 else 1
def ord (a0 : Bool) (a1 : Int) (a2 : ByteArray) (b0 : Bool) (b1 : Int) (b2 : ByteArray) : Int :=
  if cmpI (flagI a0) (flagI b0) = 0 then (if cmpI a1 b1 = 0 then cmpT a2 b2 else cmpI a1 b1) else cmpI (flagI a0) (flagI b0)
end Go.Proofs.Ytdedmhmomoejkaa.X
namespace Go.Proofs.Ytdedmhmomoejkaa.X
open Go.RowKit Go.Proofs.YtdedmhmomoejkaaW.PrintWords Go.Proofs.YtdedmhmomoejkaaW.PrintLast
set_option linter.unusedVariables false
set_option linter.unusedSimpArgs false
theorem fields_cases (x : S27) (h : fieldsB x = true) : x.f0 = 1 ∨ ((x.f0 = 2 ∨ x.f0 = 3 ∨ x.f0 = 4) ∧ nameB x.f1 = true) ∨ (x.f0 = 5 ∨ x.f0 = 6 ∨ x.f0 = 7) := by
  have hs := fields_some x
  rw [h] at hs
  by_cases h1 : x.f0 = 1
  · exact .inl h1
  by_cases h5 : x.f0 = 5 ∨ x.f0 = 6 ∨ x.f0 = 7
  · exact .inr (.inr h5)
  have h5' : x.f0 ≠ 5 ∧ x.f0 ≠ 6 ∧ x.f0 ≠ 7 := by omega
  refine .inr (.inl ?_)
  unfold pred_fields.f at hs
  obtain ⟨b, _, hs⟩ := Option.bind_eq_some_iff.1 hs
  obtain ⟨c, _, hs⟩ := Option.bind_eq_some_iff.1 hs
  simp only [schema_Name.f, Option.bind_some] at hs
  by_cases h2 : x.f0 = 2
  · refine ⟨.inl h2, ?_⟩
    cases hn : nameB x.f1
    · rw [hn] at hs; simp [h2] at hs
    · rfl
  by_cases h3 : x.f0 = 3
  · refine ⟨.inr (.inl h3), ?_⟩
    cases hn : nameB x.f1
    · rw [hn] at hs; simp [h3] at hs
    · rfl
  by_cases h4 : x.f0 = 4
  · refine ⟨.inr (.inr h4), ?_⟩
    cases hn : nameB x.f1
    · rw [hn] at hs; simp [h4] at hs
    · rfl
  exfalso
  have hlt : x.f0 < 5 ∨ 7 < x.f0 := by omega
  simp [h1, h2, h3, h4] at hs
  rcases hlt with hlt | hlt
  · have : ¬ (5 ≤ x.f0) := by omega
    simp [this] at hs
  · have h5 : 5 ≤ x.f0 := by omega
    have : ¬ (x.f0 ≤ 7) := by omega
    simp [h5, this] at hs
theorem name_ne (s : ByteArray) (h : nameB s = true) : s.toList ≠ [] := by
  intro e
  have : s.size = 0 := by
    rw [ByteArray.toList_eq] at e
    have := data_length s
    rw [e] at this
    exact this.symm
  simp [nameB, this] at h
theorem typed_found (l : List S64) (x : S27) (h : typedB l x = true) (hn : x.f1.toList ≠ []) : 0 ≤ idxOf (fun y : S64 => y.f0.toList == x.f1.toList) l := by
  have hs := typed_some l x
  rw [h] at hs
  unfold pred_typed.f schema_Find.f at hs
  rw [if_neg hn] at hs
  simp only [Option.bind_some] at hs
  cases hd : decide (0 ≤ idxOf (fun y : S64 => y.f0.toList == x.f1.toList) l)
  · rw [hd] at hs; simp at hs
  · exact of_decide_eq_true hd
def Good {σ : Type} (st : S27 → σ → Bool × σ) (d : Nat) (x : S27) : Prop := ∃ s, (ev st d x s).1 = true
theorem evL_all {σ : Type} (f : S27 → σ → Bool × σ) : ∀ (l : List S27) (s : σ), (evL f l s).1 = true → ∀ y, y ∈ l → ∃ s', (f y s').1 = true
  | [], _, _, y, hy => by cases hy
  | x :: r, s, h, y, hy => by
    unfold evL at h
    cases hb : (f x s).1 with
    | false => rw [hb] at h; simp at h
    | true =>
      rw [hb] at h
      rcases List.mem_cons.1 hy with rfl | hy
      · exact ⟨s, hb⟩
      · exact evL_all f r _ (by simpa using h) y hy
theorem Good.step {σ : Type} {st : S27 → σ → Bool × σ} {d : Nat} {x : S27} (h : Good st d x) : ∃ e, d = e + 1 ∧ (∃ s, (st x s).1 = true) ∧ ∀ y, y ∈ x.f6 → Good st e y := by
  obtain ⟨s, h⟩ := h
  cases d with
  | zero => simp [ev] at h
  | succ e =>
    refine ⟨e, rfl, ?_⟩
    unfold ev at h
    cases hb : (st x s).1 with
    | false => rw [hb] at h; simp at h
    | true =>
      rw [hb] at h
      exact ⟨⟨s, hb⟩, evL_all _ _ _ (by simpa using h)⟩
end Go.Proofs.Ytdedmhmomoejkaa.X
namespace Go.Proofs.Ytdedmhmomoejkaa.X
open Go.RowKit Go.Proofs.YtdedmhmomoejkaaW.PrintWords Go.Proofs.YtdedmhmomoejkaaW.PrintLast
set_option linter.unusedVariables false
set_option linter.unusedSimpArgs false
theorem wrap_in {i : Int} (h0 : -9223372036854775808 ≤ i) (h1 : i ≤ 9223372036854775807) : wrap64 i = i := by unfold wrap64; omega
theorem rd27_mem (l : List S27) (i : Nat) (h : i < l.length) : rd_T27 l (i : Int) ∈ l := by
  simp only [rd_T27, Int.toNat_natCast, List.getD_eq_getElem?_getD, List.getElem?_eq_getElem h, Option.getD_some]
  exact List.getElem_mem h
theorem kids_len (op : Int) (ks : List S27) (h : kidsB op ks = true) (h5 : op = 5) : ks.length = 1 := by
  subst h5
  simpa [kidsB] using h
def Lens : Nat → S27 → Prop
  | 0, _ => True
  | d + 1, x => x.f6.length ≤ 9223372036854775806 ∧ ∀ y, y ∈ x.f6 → Lens d y
theorem cellMay_ans (a : Int) (b c : Bool) (d : Int) (e : ByteArray) : Ans (cell_May.f a b c d e) := by
  unfold cell_May.f
  repeat' (first | exact Ans.some_ _ | refine Ans.ite ?_ ?_)
end Go.Proofs.Ytdedmhmomoejkaa.X
namespace Go.Proofs.Ytdedmhmomoejkaa.X
open Go.RowKit Go.Proofs.YtdedmhmomoejkaaW.PrintWords Go.Proofs.YtdedmhmomoejkaaW.PrintLast Go.Proofs.YtdedmhmomoejkaaW.PrintMore
attribute [local go_sem] max2_int max_two
set_option linter.unusedVariables false
set_option linter.unusedSimpArgs false
mutual
def firkinlaw12_Small.l0 : Nat → List (S64) → Int → Option (Bool)
 | 0, _, _ => none
 | k + 1, x0, x3 => if x3 < (x0.length : Int) then (firkinlaw12_Small.j1 k x0 x3 (decide (x3 < 30))) else (firkinlaw12_Small.j1 k x0 x3 false)
def firkinlaw12_Small.j1 : Nat → List (S64) → Int → Bool → Option (Bool)
 | 0, _, _, _ => none
 | k + 1, x0, x3, x11 => if x11 = true then (if 0 ≤ x3 then (if x3 < (x0.length : Int) then (if (((rd_T64 x0 x3).f0).size : Int) > 100 then (some false) else (firkinlaw12_Small.l0 k x0 (wrap64 (x3 + 1)))) else (none)) else (none)) else (some (decide ((x0.length : Int) ≤ 20)))
end
def firkinlaw12_Small.f (k : Nat) (l0 : List (S64)) : Option (Bool) := firkinlaw12_Small.l0 k l0 0
theorem firkinlaw12_Small.mono_l : ∀ k, (∀ y0 y1, LeO (firkinlaw12_Small.l0 k y0 y1) (firkinlaw12_Small.l0 (k + 1) y0 y1)) ∧ (∀ y0 y1 y2, LeO (firkinlaw12_Small.j1 k y0 y1 y2) (firkinlaw12_Small.j1 (k + 1) y0 y1 y2))
 | 0 => ⟨fun _ _ r h => by simp [firkinlaw12_Small.l0] at h, fun _ _ _ r h => by simp [firkinlaw12_Small.j1] at h⟩
 | k + 1 => by
  obtain ⟨ih0, ih1⟩ := firkinlaw12_Small.mono_l k
  refine ⟨?_, ?_⟩
  ·intro y0 y1
   unfold firkinlaw12_Small.l0
   repeat' first
   | (with_reducible exact ih0 _ _)
   | (with_reducible exact ih1 _ _ _)
   | (with_reducible exact LeO.refl _)
   | (with_reducible exact LeO.none _)
   | (with_reducible refine LeO.ite ?_ ?_)
   | (with_reducible refine LeO.bind ?_ (fun _ => ?_))
   | exact ih0 _ _
   | exact ih1 _ _ _
   | exact LeO.none _
   | refine LeO.ite ?_ ?_
   | refine LeO.bind ?_ (fun _ => ?_)
  ·intro y0 y1 y2
   unfold firkinlaw12_Small.j1
   repeat' first
   | (with_reducible exact ih0 _ _)
   | (with_reducible exact ih1 _ _ _)
   | (with_reducible exact LeO.refl _)
   | (with_reducible exact LeO.none _)
   | (with_reducible refine LeO.ite ?_ ?_)
   | (with_reducible refine LeO.bind ?_ (fun _ => ?_))
   | exact ih0 _ _
   | exact ih1 _ _ _
   | exact LeO.none _
   | refine LeO.ite ?_ ?_
   | refine LeO.bind ?_ (fun _ => ?_)
theorem firkinlaw12_Small.mono : ∀ a0 k, LeO (firkinlaw12_Small.f k a0) (firkinlaw12_Small.f (k + 1) a0) := by
 intro a0 k
 obtain ⟨ih0, ih1⟩ := firkinlaw12_Small.mono_l k
 unfold firkinlaw12_Small.f
 repeat' first
   | (with_reducible exact ih0 _ _)
   | (with_reducible exact ih1 _ _ _)
   | (with_reducible exact LeO.refl _)
   | (with_reducible exact LeO.none _)
   | (with_reducible refine LeO.ite ?_ ?_)
   | (with_reducible refine LeO.bind ?_ (fun _ => ?_))
   | exact ih0 _ _
   | exact ih1 _ _ _
   | exact LeO.none _
   | refine LeO.ite ?_ ?_
   | refine LeO.bind ?_ (fun _ => ?_)
set_option maxHeartbeats 8000000 in
set_option maxRecDepth 100000 in
theorem firkinlaw12_Small.calls (k : Nat) (A0 : Option Addr) (c0 : Nat) (l0 : List (S64)) (r : Bool) (w : World) (hr0 : Kd.C k64 w A0 l0.length l0) (hc0 : l0.length ≤ c0) (h : firkinlaw12_Small.f k l0 = some r) :
  Calls Try.prog 9 #[.slice A0 l0.length c0] w fun e w' => e = .returned (.bool r) ∧ Drawn0 w w' := by
 have HR0 := Aside0.mk hr0
 have HC0 := Aside0.mk hc0
 clear hr0 hc0
 have H : (firkinlaw12_Small.l0 k l0 0) = some r := h
 clear h
 have H' := Aside0.mk H
 clear H
 go_enter Try.func9, Try.ntmps9
 go_wp2
 go_loopg [3] k (fun kq v3 w' => ∃ (x3_1 : Int), v3 = .int .i64 x3_1 ∧ Aside0 (firkinlaw12_Small.l0 kq l0 x3_1 = some r) ∧ Aside0 (kq ≤ k) ∧ Drawn0 w w')
 case atStart => exact ⟨_, (by first | rfl | (simp; done) | (simp [*]; done)), H', ⟨Nat.le_refl _⟩, by repeat (first | exact Drawn0.refl _ | apply Drawn0.step)⟩
 case round =>
  clear H'
  obtain ⟨x3_1, rfl, HA, HK1, ⟨m1, rfl⟩⟩ := hrel
  cases gk with
  | zero => exact absurd HA.out (by simp [firkinlaw12_Small.l0])
  | succ k1 =>
   have H := HA.out
   clear HA
   simp only [firkinlaw12_Small.l0] at H
   have HC2 := Aside0.mk H
   clear H
   go_upto_region 2 with (fail)
   go_cut [11] (fun v11 wc => ∃ (kq : Nat) (x11_1 : Bool), v11 = .bool x11_1 ∧ Aside0 (firkinlaw12_Small.j1 kq l0 x3_1 x11_1 = some r) ∧ Aside0 (kq ≤ k1) ∧ Drawn0 w wc)
   case first =>
    have H := HC2.out
    clear HC2
    by_cases c3 : x3_1 < (l0.length : Int)
    rotate_left
    focus
     rw [if_neg c3] at H
     have c3b0 : decide (x3_1 < (l0.length : Int)) = false := decide_eq_false c3
    rotate_right
    focus
     rw [if_pos c3] at H
     have c3b0 : decide (x3_1 < (l0.length : Int)) = true := decide_eq_true c3
    all_goals
     clear c3
     (first | rw [c3b0] | (simp only [i64_w, i32_w]; rw [c3b0]) | skip)
     have H' := Aside0.mk H
     clear H
     go_wp2
     go_meet
     case rel => exact ⟨_, _, (by first | rfl | (simp; done) | (simp [*]; done)), H', ⟨by have := HK1.out; first | omega | exact Nat.le_refl _⟩, by repeat (first | exact Drawn0.refl _ | apply Drawn0.step)⟩
   case rest =>
    clear HC2
    try clear p2
    try clear c3
    try clear c3b0
    obtain ⟨kq, x11_1, rfl, HA, HJ1, ⟨mc1, rfl⟩⟩ := hcut
    cases kq with
    | zero => exact absurd HA.out (by simp [firkinlaw12_Small.j1])
    | succ kj1 =>
     have H := HA.out
     clear HA
     simp only [firkinlaw12_Small.j1] at H
     by_cases c4 : x11_1 = true
     ·subst c4
      have H1 : (if 0 ≤ x3_1 then (if x3_1 < (l0.length : Int) then (if (((rd_T64 l0 x3_1).f0).size : Int) > 100 then (some false) else (firkinlaw12_Small.l0 kj1 l0 (wrap64 (x3_1 + 1)))) else (none)) else (none)) = some r := by rw [if_pos rfl] at H; exact H
      clear H
      have H := H1
      clear H1
      by_cases c5 : 0 ≤ x3_1
      ·rw [if_pos c5] at H
       have c5b0 : decide (0 ≤ x3_1) = true := decide_eq_true c5
       clear c5
       by_cases c6 : x3_1 < (l0.length : Int)
       ·rw [if_pos c6] at H
        have c6b0 : decide (x3_1 < (l0.length : Int)) = true := decide_eq_true c6
        clear c6
        by_cases c7 : (((rd_T64 l0 x3_1).f0).size : Int) > 100
        ·rw [if_pos c7] at H
         have c7b0 : decide (100 < (((rd_T64 l0 x3_1).f0).size : Int)) = true := decide_eq_true c7
         have c7b1 : decide (100 < ((rd_T64 l0 x3_1).f0).size) = true := decide_eq_true (by omega)
         clear c7
         obtain rfl := Option.some.inj H
         have p101 : 0 ≤ (x3_1 : Int) := dt_
         have q101 : x3_1 < (l0.length : Int) := dt_
         obtain ⟨ad101, e101, hx101_0, hx101_1, hx101_2⟩ := at_T64 HR0.out x3_1 p101 q101
         cases e101
         replace p101 := eq_true p101
         replace q101 := eq_true q101
         go_wp2
         go_ret
         exact ⟨by first | rfl | (simp; done) | (simp [*]; done), by repeat (first | exact Drawn0.refl _ | apply Drawn0.step)⟩
        ·rw [if_neg c7] at H
         have c7b0 : decide (100 < (((rd_T64 l0 x3_1).f0).size : Int)) = false := decide_eq_false c7
         have c7b1 : decide (100 < ((rd_T64 l0 x3_1).f0).size) = false := decide_eq_false (by omega)
         clear c7
         have H' := Aside0.mk H
         clear H
         have p101 : 0 ≤ (x3_1 : Int) := dt_
         have q101 : x3_1 < (l0.length : Int) := dt_
         obtain ⟨ad101, e101, hx101_0, hx101_1, hx101_2⟩ := at_T64 HR0.out x3_1 p101 q101
         cases e101
         replace p101 := eq_true p101
         replace q101 := eq_true q101
         go_wp2
         go_roundg kj1
         case measure => have := HK1.out; have := HJ1.out; omega
         case rel => exact ⟨_, (by first | rfl | (simp; done) | (simp [*]; done)), H', ⟨by have := HK1.out; have := HJ1.out; omega⟩, by repeat (first | exact Drawn0.refl _ | apply Drawn0.step)⟩
       ·rw [if_neg c6] at H
        exact absurd H (by simp)
      ·rw [if_neg c5] at H
       exact absurd H (by simp)
     ·replace c4 := Bool.eq_false_iff.mpr c4
      subst c4
      have H1 : (some (decide ((l0.length : Int) ≤ 20))) = some r := by rw [if_neg (show ¬ (false = true) by decide)] at H; exact H
      clear H
      have H := H1
      clear H1
      obtain rfl := Option.some.inj H
      go_wp2
      go_ret
      exact ⟨by first | rfl | (simp; done) | (simp [*]; done), by repeat (first | exact Drawn0.refl _ | apply Drawn0.step)⟩
end Go.Proofs.Ytdedmhmomoejkaa.X
namespace Go.Proofs.Ytdedmhmomoejkaa.X
open Go.RowKit Go.Proofs.YtdedmhmomoejkaaW.PrintWords Go.Proofs.YtdedmhmomoejkaaW.PrintLast Go.Proofs.YtdedmhmomoejkaaW.PrintMore
attribute [local go_sem] max2_int max_two
set_option linter.unusedVariables false
set_option linter.unusedSimpArgs false
mutual
def firkinref17_Small.j0 : Nat → Int → Bool → Int → ByteArray → Int → Bool → Int → ByteArray → Int → ByteArray → List (S27) → Option (Bool)
 | 0, _, _, _, _, _, _, _, _, _, _, _ => none
 | k + 1, x1, x32, x103000, x103001, x103002, x103003, x103004, x103005, x103006, x103007, x103008 => if x32 = true then (some false) else (firkinref17_Small.l0 k x1 0 x103000 x103001 x103002 x103003 x103004 x103005 x103006 x103007 x103008)
def firkinref17_Small.l0 : Nat → Int → Int → Int → ByteArray → Int → Bool → Int → ByteArray → Int → ByteArray → List (S27) → Option (Bool)
 | 0, _, _, _, _, _, _, _, _, _, _, _ => none
 | k + 1, x1, x5, x103000, x103001, x103002, x103003, x103004, x103005, x103006, x103007, x103008 => if x5 < (x103008.length : Int) then (if 0 ≤ x5 then ((firkinref17_Small.f k ((rd_T27 x103008 x5).f0) ((rd_T27 x103008 x5).f1) ((rd_T27 x103008 x5).f2) ((rd_T27 x103008 x5).f3.f0) ((rd_T27 x103008 x5).f3.f1) ((rd_T27 x103008 x5).f3.f2) ((rd_T27 x103008 x5).f4) ((rd_T27 x103008 x5).f5) ((rd_T27 x103008 x5).f6) (wrap64 (x1 - 1))).bind fun t104 => (if t104 = true then (firkinref17_Small.l0 k x1 (wrap64 (x5 + 1)) x103000 x103001 x103002 x103003 x103004 x103005 x103006 x103007 x103008) else (some false))) else (none)) else (some true)
def firkinref17_Small.f : Nat → Int → ByteArray → Int → Bool → Int → ByteArray → Int → ByteArray → List (S27) → Int → Option (Bool)
 | 0, _, _, _, _, _, _, _, _, _, _ => none
 | k + 1, a0_0, a0_1, a0_2, a0_3, a0_4, a0_5, a0_6, a0_7, l0_8, a1 => if a1 < 1 then (firkinref17_Small.j0 k a1 true a0_0 a0_1 a0_2 a0_3 a0_4 a0_5 a0_6 a0_7 l0_8) else (if (l0_8.length : Int) > 20 then (firkinref17_Small.j0 k a1 true a0_0 a0_1 a0_2 a0_3 a0_4 a0_5 a0_6 a0_7 l0_8) else (if (a0_1.size : Int) > 100 then (firkinref17_Small.j0 k a1 true a0_0 a0_1 a0_2 a0_3 a0_4 a0_5 a0_6 a0_7 l0_8) else (if (a0_7.size : Int) > 100 then (firkinref17_Small.j0 k a1 true a0_0 a0_1 a0_2 a0_3 a0_4 a0_5 a0_6 a0_7 l0_8) else (firkinref17_Small.j0 k a1 (decide ((a0_5.size : Int) > 100)) a0_0 a0_1 a0_2 a0_3 a0_4 a0_5 a0_6 a0_7 l0_8))))
end
theorem firkinref17_Small.mono_l : ∀ k, (∀ y0 y1 y2 y3 y4 y5 y6 y7 y8 y9, LeO (firkinref17_Small.f k y0 y1 y2 y3 y4 y5 y6 y7 y8 y9) (firkinref17_Small.f (k + 1) y0 y1 y2 y3 y4 y5 y6 y7 y8 y9)) ∧ (∀ y0 y1 y2 y3 y4 y5 y6 y7 y8 y9 y10, LeO (firkinref17_Small.j0 k y0 y1 y2 y3 y4 y5 y6 y7 y8 y9 y10) (firkinref17_Small.j0 (k + 1) y0 y1 y2 y3 y4 y5 y6 y7 y8 y9 y10)) ∧ (∀ y0 y1 y2 y3 y4 y5 y6 y7 y8 y9 y10, LeO (firkinref17_Small.l0 k y0 y1 y2 y3 y4 y5 y6 y7 y8 y9 y10) (firkinref17_Small.l0 (k + 1) y0 y1 y2 y3 y4 y5 y6 y7 y8 y9 y10))
 | 0 => ⟨fun _ _ _ _ _ _ _ _ _ _ r h => by simp [firkinref17_Small.f] at h, fun _ _ _ _ _ _ _ _ _ _ _ r h => by simp [firkinref17_Small.j0] at h, fun _ _ _ _ _ _ _ _ _ _ _ r h => by simp [firkinref17_Small.l0] at h⟩
 | k + 1 => by
  obtain ⟨ih0, ih1, ih2⟩ := firkinref17_Small.mono_l k
  refine ⟨?_, ?_, ?_⟩
  ·intro y0 y1 y2 y3 y4 y5 y6 y7 y8 y9
   unfold firkinref17_Small.f
   repeat' first
   | (with_reducible exact ih0 _ _ _ _ _ _ _ _ _ _)
   | (with_reducible exact ih1 _ _ _ _ _ _ _ _ _ _ _)
   | (with_reducible exact ih2 _ _ _ _ _ _ _ _ _ _ _)
   | (with_reducible exact LeO.refl _)
   | (with_reducible exact LeO.none _)
   | (with_reducible refine LeO.ite ?_ ?_)
   | (with_reducible refine LeO.bind ?_ (fun _ => ?_))
   | exact ih0 _ _ _ _ _ _ _ _ _ _
   | exact ih1 _ _ _ _ _ _ _ _ _ _ _
   | exact ih2 _ _ _ _ _ _ _ _ _ _ _
   | exact LeO.none _
   | refine LeO.ite ?_ ?_
   | refine LeO.bind ?_ (fun _ => ?_)
  ·intro y0 y1 y2 y3 y4 y5 y6 y7 y8 y9 y10
   unfold firkinref17_Small.j0
   repeat' first
   | (with_reducible exact ih0 _ _ _ _ _ _ _ _ _ _)
   | (with_reducible exact ih1 _ _ _ _ _ _ _ _ _ _ _)
   | (with_reducible exact ih2 _ _ _ _ _ _ _ _ _ _ _)
   | (with_reducible exact LeO.refl _)
   | (with_reducible exact LeO.none _)
   | (with_reducible refine LeO.ite ?_ ?_)
   | (with_reducible refine LeO.bind ?_ (fun _ => ?_))
   | exact ih0 _ _ _ _ _ _ _ _ _ _
   | exact ih1 _ _ _ _ _ _ _ _ _ _ _
   | exact ih2 _ _ _ _ _ _ _ _ _ _ _
   | exact LeO.none _
   | refine LeO.ite ?_ ?_
   | refine LeO.bind ?_ (fun _ => ?_)
  ·intro y0 y1 y2 y3 y4 y5 y6 y7 y8 y9 y10
   unfold firkinref17_Small.l0
   repeat' first
   | (with_reducible exact ih0 _ _ _ _ _ _ _ _ _ _)
   | (with_reducible exact ih1 _ _ _ _ _ _ _ _ _ _ _)
   | (with_reducible exact ih2 _ _ _ _ _ _ _ _ _ _ _)
   | (with_reducible exact LeO.refl _)
   | (with_reducible exact LeO.none _)
   | (with_reducible refine LeO.ite ?_ ?_)
   | (with_reducible refine LeO.bind ?_ (fun _ => ?_))
   | exact ih0 _ _ _ _ _ _ _ _ _ _
   | exact ih1 _ _ _ _ _ _ _ _ _ _ _
   | exact ih2 _ _ _ _ _ _ _ _ _ _ _
   | exact LeO.none _
   | refine LeO.ite ?_ ?_
   | refine LeO.bind ?_ (fun _ => ?_)
theorem firkinref17_Small.mono : ∀ a0 a1 a2 a3 a4 a5 a6 a7 a8 a9 k, LeO (firkinref17_Small.f k a0 a1 a2 a3 a4 a5 a6 a7 a8 a9) (firkinref17_Small.f (k + 1) a0 a1 a2 a3 a4 a5 a6 a7 a8 a9) := by
 intro a0 a1 a2 a3 a4 a5 a6 a7 a8 a9 k
 obtain ⟨ih0, ih1, ih2⟩ := firkinref17_Small.mono_l k
 exact ih0 a0 a1 a2 a3 a4 a5 a6 a7 a8 a9
set_option maxHeartbeats 8000000 in
set_option maxRecDepth 100000 in
theorem firkinref17_Small.calls (k : Nat) : ∀ (a0_0 : Int) (a0_1 : ByteArray) (a0_2 : Int) (a0_3 : Bool) (a0_4 : Int) (a0_5 : ByteArray) (a0_6 : Int) (a0_7 : ByteArray) (A0_8 : Option Addr) (c0_8 : Nat) (l0_8 : List (S27)) (a1 : Int) (r : Bool) (w : World) (hr0_8 : Kd.C k27 w A0_8 l0_8.length l0_8) (hc0_8 : l0_8.length ≤ c0_8) (h : firkinref17_Small.f k a0_0 a0_1 a0_2 a0_3 a0_4 a0_5 a0_6 a0_7 l0_8 a1 = some r),
  Calls Try.prog 10 #[.agg #[.int .i64 a0_0, .string a0_1, .int .i64 a0_2, .bool a0_3, .int .i64 a0_4, .string a0_5, .int .i64 a0_6, .string a0_7, .slice A0_8 l0_8.length c0_8], .int .i64 a1] w fun e w' => e = .returned (.bool r) ∧ Below w.heap.size w w' := by
 induction k using Nat.strongRecOn with
 | _ k ih =>
 intro a0_0 a0_1 a0_2 a0_3 a0_4 a0_5 a0_6 a0_7 A0_8 c0_8 l0_8 a1 r w hr0_8 hc0_8 h
 cases k with
 | zero => exact absurd h (by simp [firkinref17_Small.f])
 | succ k =>
 simp only [firkinref17_Small.f] at h
 have hu27 := Try.underlying27
 have HR0_8 := Aside0.mk hr0_8
 have HC0_8 := Aside0.mk hc0_8
 clear hr0_8 hc0_8
 have HB := Aside0.mk (Below.refl w.heap.size w)
 have H : (if a1 < 1 then (firkinref17_Small.j0 k a1 true a0_0 a0_1 a0_2 a0_3 a0_4 a0_5 a0_6 a0_7 l0_8) else (if (l0_8.length : Int) > 20 then (firkinref17_Small.j0 k a1 true a0_0 a0_1 a0_2 a0_3 a0_4 a0_5 a0_6 a0_7 l0_8) else (if (a0_1.size : Int) > 100 then (firkinref17_Small.j0 k a1 true a0_0 a0_1 a0_2 a0_3 a0_4 a0_5 a0_6 a0_7 l0_8) else (if (a0_7.size : Int) > 100 then (firkinref17_Small.j0 k a1 true a0_0 a0_1 a0_2 a0_3 a0_4 a0_5 a0_6 a0_7 l0_8) else (firkinref17_Small.j0 k a1 (decide ((a0_5.size : Int) > 100)) a0_0 a0_1 a0_2 a0_3 a0_4 a0_5 a0_6 a0_7 l0_8))))) = some r := h
 clear h
 have HC3 := Aside0.mk H
 clear H
 go_enter Try.func10, Try.ntmps10
 go_upto_region 1 with (first | ((with_reducible refine gate_dst (N := 2) rfl ?_); (try (refine gate_guard (by rfl) ?_; dsimp only)); refine bx_ (N := 2) (cs := #[.int .i64 a0_0, .string a0_1, .int .i64 a0_2, .bool a0_3, .int .i64 a0_4, .string a0_5, .int .i64 a0_6, .string a0_7, .slice A0_8 l0_8.length c0_8]) (t := 27) ?_; intro gb102 hg w4 hbox hb; have BK102 := Aside0.mk (hbox); have GW102 := ge_ HB hg; have GE102 := ge_ HB hg; replace HB := bs_ HB hb; clear hb hbox hg))
 (try simp only [Act.put, List.setIfInBounds_toArray, List.set_cons_zero, List.set_cons_succ])
 go_cut [32] (fun v32 wc => ∃ (kq : Nat) (x32_2 : Bool), v32 = .bool x32_2 ∧ Aside0 (firkinref17_Small.j0 kq a1 x32_2 a0_0 a0_1 a0_2 a0_3 a0_4 a0_5 a0_6 a0_7 l0_8 = some r) ∧ Aside0 (kq ≤ k) ∧ Aside0 (wc.heap[gb102]? = some (.cells #[.int .i64 a0_0, .string a0_1, .int .i64 a0_2, .bool a0_3, .int .i64 a0_4, .string a0_5, .int .i64 a0_6, .string a0_7, (.slice A0_8 l0_8.length c0_8)] 27 (0, 0))) ∧ Aside0 (Below w.heap.size w wc))
 case first =>
  have H := HC3.out
  clear HC3
  by_cases c5 : a1 < 1
  rotate_left
  focus
   rw [if_neg c5] at H
   have c5b0 : decide (a1 < 1) = false := decide_eq_false c5
   clear c5
   (first | rw [c5b0] | (simp only [i64_w, i32_w]; rw [c5b0]) | skip)
   by_cases c6 : (l0_8.length : Int) > 20
   rotate_left
   focus
    rw [if_neg c6] at H
    have c6b0 : decide (20 < (l0_8.length : Int)) = false := decide_eq_false c6
    have c6b1 : decide (20 < l0_8.length) = false := decide_eq_false (by omega)
    clear c6
    by_cases c8 : (a0_1.size : Int) > 100
    rotate_left
    focus
     rw [if_neg c8] at H
     have c8b0 : decide (100 < (a0_1.size : Int)) = false := decide_eq_false c8
     have c8b1 : decide (100 < a0_1.size) = false := decide_eq_false (by omega)
     clear c8
     by_cases c10 : (a0_7.size : Int) > 100
     rotate_left
     focus
      rw [if_neg c10] at H
      have c10b0 : decide (100 < (a0_7.size : Int)) = false := decide_eq_false c10
      have c10b1 : decide (100 < a0_7.size) = false := decide_eq_false (by omega)
     rotate_right
     focus
      rw [if_pos c10] at H
      have c10b0 : decide (100 < (a0_7.size : Int)) = true := decide_eq_true c10
      have c10b1 : decide (100 < a0_7.size) = true := decide_eq_true (by omega)
     all_goals
      clear c10
    rotate_right
    focus
     rw [if_pos c8] at H
     have c8b0 : decide (100 < (a0_1.size : Int)) = true := decide_eq_true c8
     have c8b1 : decide (100 < a0_1.size) = true := decide_eq_true (by omega)
     clear c8
   rotate_right
   focus
    rw [if_pos c6] at H
    have c6b0 : decide (20 < (l0_8.length : Int)) = true := decide_eq_true c6
    have c6b1 : decide (20 < l0_8.length) = true := decide_eq_true (by omega)
    clear c6
   all_goals
    have H' := Aside0.mk H
    clear H
    obtain ⟨C7_0, C7_1, C7_2, C7_3, C7_4, C7_5, C7_6, C7_7, C7_8⟩ := cz9_ BK102.out
    obtain ⟨F7_0, F7_1, F7_2, F7_3, F7_4, F7_5, F7_6, F7_7, F7_8⟩ := fz9_ BK102.out
  rotate_right
  focus
   rw [if_pos c5] at H
   have c5b0 : decide (a1 < 1) = true := decide_eq_true c5
   clear c5
   (first | rw [c5b0] | (simp only [i64_w, i32_w]; rw [c5b0]) | skip)
   have H' := Aside0.mk H
   clear H
  all_goals
   go_wp2
   go_meet
   case rel => exact ⟨_, _, (by first | rfl | (simp; done) | (simp [*]; done)), H', ⟨by first | omega | exact Nat.le_refl _⟩, ⟨by (with_reducible repeat (first | refine blk_drewN ?_ _ | refine blk_drew ?_ | refine blk_alloc ?_ _)); exact BK102.out⟩, ⟨by repeat (first | (with_reducible first | exact HB.out | apply below_alloc | apply pw_below_drewN | apply below_drew1 | refine below_set ?_ GE102.out) | exact HB.out)⟩⟩
 case rest =>
  clear HC3
  try clear c1
  try clear p2
  try clear c5
  try clear c5b0
  try clear c6
  try clear c6b0
  try clear c6b1
  try clear c8
  try clear c8b0
  try clear c8b1
  try clear c10
  try clear c10b0
  try clear c10b1
  try clear C11_0 C11_1 C11_2 C11_3 C11_4 C11_5 C11_6 C11_7 C11_8
  try clear C12_0 C12_1 C12_2 C12_3 C12_4 C12_5 C12_6 C12_7 C12_8
  try clear C7_0 C7_1 C7_2 C7_3 C7_4 C7_5 C7_6 C7_7 C7_8
  try clear C9_0 C9_1 C9_2 C9_3 C9_4 C9_5 C9_6 C9_7 C9_8
  try clear F11_0 F11_1 F11_2 F11_3 F11_4 F11_5 F11_6 F11_7 F11_8
  try clear F12_0 F12_1 F12_2 F12_3 F12_4 F12_5 F12_6 F12_7 F12_8
  try clear F7_0 F7_1 F7_2 F7_3 F7_4 F7_5 F7_6 F7_7 F7_8
  try clear F9_0 F9_1 F9_2 F9_3 F9_4 F9_5 F9_6 F9_7 F9_8
  obtain ⟨kq, x32_2, rfl, HA, HJ2, BK102, HB⟩ := hcut
  cases kq with
  | zero => exact absurd HA.out (by simp [firkinref17_Small.j0])
  | succ kj2 =>
   have H := HA.out
   clear HA
   simp only [firkinref17_Small.j0] at H
   by_cases c13 : x32_2 = true
   ·subst c13
    have H1 : (some false) = some r := by rw [if_pos rfl] at H; exact H
    clear H
    have H := H1
    clear H1
    obtain rfl := Option.some.inj H
    go_wp2
    go_ret
    exact en_ HB
   ·replace c13 := Bool.eq_false_iff.mpr c13
    subst c13
    have H1 : (firkinref17_Small.l0 kj2 a1 0 a0_0 a0_1 a0_2 a0_3 a0_4 a0_5 a0_6 a0_7 l0_8) = some r := by rw [if_neg (show ¬ (false = true) by decide)] at H; exact H
    clear H
    have H := H1
    clear H1
    have H' := Aside0.mk H
    clear H
    go_wp2
    go_loopg [5] kj2 (fun kq v5 w' => ∃ (x5_2 : Int), v5 = .int .i64 x5_2 ∧ Aside0 (firkinref17_Small.l0 kq a1 x5_2 a0_0 a0_1 a0_2 a0_3 a0_4 a0_5 a0_6 a0_7 l0_8 = some r) ∧ Aside0 (kq ≤ kj2) ∧ Aside0 (w'.heap[gb102]? = some (.cells #[.int .i64 a0_0, .string a0_1, .int .i64 a0_2, .bool a0_3, .int .i64 a0_4, .string a0_5, .int .i64 a0_6, .string a0_7, (.slice A0_8 l0_8.length c0_8)] 27 (0, 0))) ∧ Aside0 (Below w.heap.size w w'))
    case atStart => exact ⟨_, (by first | rfl | (simp; done) | (simp [*]; done)), H', ⟨Nat.le_refl _⟩, ⟨by (with_reducible repeat (first | refine blk_drewN ?_ _ | refine blk_drew ?_ | refine blk_alloc ?_ _)); exact BK102.out⟩, ⟨by repeat (first | (with_reducible first | exact HB.out | apply below_alloc | apply pw_below_drewN | apply below_drew1 | refine below_set ?_ GE102.out) | exact HB.out)⟩⟩
    case round =>
     clear H'
     try clear c1
     try clear p2
     try clear c5
     try clear c5b0
     try clear c6
     try clear c6b0
     try clear c6b1
     try clear c8
     try clear c8b0
     try clear c8b1
     try clear c10
     try clear c10b0
     try clear c10b1
     try clear c13
     try clear C11_0 C11_1 C11_2 C11_3 C11_4 C11_5 C11_6 C11_7 C11_8
     try clear C12_0 C12_1 C12_2 C12_3 C12_4 C12_5 C12_6 C12_7 C12_8
     try clear C7_0 C7_1 C7_2 C7_3 C7_4 C7_5 C7_6 C7_7 C7_8
     try clear C9_0 C9_1 C9_2 C9_3 C9_4 C9_5 C9_6 C9_7 C9_8
     try clear F11_0 F11_1 F11_2 F11_3 F11_4 F11_5 F11_6 F11_7 F11_8
     try clear F12_0 F12_1 F12_2 F12_3 F12_4 F12_5 F12_6 F12_7 F12_8
     try clear F7_0 F7_1 F7_2 F7_3 F7_4 F7_5 F7_6 F7_7 F7_8
     try clear F9_0 F9_1 F9_2 F9_3 F9_4 F9_5 F9_6 F9_7 F9_8
     try clear p2
     obtain ⟨x5_2, rfl, HA, HK2, BK102, HB⟩ := hrel
     cases gk with
     | zero => exact absurd HA.out (by simp [firkinref17_Small.l0])
     | succ k2 =>
      have H := HA.out
      clear HA
      simp only [firkinref17_Small.l0] at H
      by_cases c14 : x5_2 < (l0_8.length : Int)
      ·rw [if_pos c14] at H
       have c14b0 : decide (x5_2 < (l0_8.length : Int)) = true := decide_eq_true c14
       clear c14
       by_cases c15 : 0 ≤ x5_2
       ·rw [if_pos c15] at H
        have c15b0 : decide (0 ≤ x5_2) = true := decide_eq_true c15
        clear c15
        replace H := Option.bind_eq_some_iff.mp H
        obtain ⟨t104, A160, H⟩ := H
        replace H : (if t104 = true then (firkinref17_Small.l0 k2 a1 (wrap64 (x5_2 + 1)) a0_0 a0_1 a0_2 a0_3 a0_4 a0_5 a0_6 a0_7 l0_8) else (some false)) = some r := H
        have A16 := Aside0.mk A160
        clear A160
        by_cases c17 : t104 = true
        ·subst c17
         have H1 : (firkinref17_Small.l0 k2 a1 (wrap64 (x5_2 + 1)) a0_0 a0_1 a0_2 a0_3 a0_4 a0_5 a0_6 a0_7 l0_8) = some r := by rw [if_pos rfl] at H; exact H
         clear H
         have H := H1
         clear H1
         have H' := Aside0.mk H
         clear H
         obtain ⟨C18_0, C18_1, C18_2, C18_3, C18_4, C18_5, C18_6, C18_7, C18_8⟩ := cz9_ BK102.out
         obtain ⟨F18_0, F18_1, F18_2, F18_3, F18_4, F18_5, F18_6, F18_7, F18_8⟩ := fz9_ BK102.out
         have p103 : 0 ≤ (x5_2 : Int) := dt_
         have q103 : x5_2 < (l0_8.length : Int) := dt_
         obtain ⟨ad103, A103_8, c103_8, e103, hx103_0, hx103_1, hx103_2, hx103_3, hx103_4, hx103_5, hx103_6, hx103_7, hx103_8, hl103_8, hi103_8⟩ := at_T27 HR0_8.out x5_2 p103 q103
         cases e103
         replace hx103_0 := hc_ HB hx103_0
         replace hx103_1 := hc_ HB hx103_1
         replace hx103_2 := hc_ HB hx103_2
         replace hx103_3 := hc_ HB hx103_3
         replace hx103_4 := hc_ HB hx103_4
         replace hx103_5 := hc_ HB hx103_5
         replace hx103_6 := hc_ HB hx103_6
         replace hx103_7 := hc_ HB hx103_7
         replace hx103_8 := hc_ HB hx103_8
         have HR103_8 := Aside0.mk hi103_8
         have HC103_8 := Aside0.mk hl103_8
         clear hi103_8 hl103_8
         replace p103 := eq_true p103
         replace q103 := eq_true q103
         go_wp2_with (first | ((with_reducible refine gate_callee (f := 10) rfl ?_); refine gl_ (some 47) rfl Try.func10 #[.agg #[.int .i64 ((rd_T27 l0_8 x5_2).f0), .string ((rd_T27 l0_8 x5_2).f1), .int .i64 ((rd_T27 l0_8 x5_2).f2), .bool ((rd_T27 l0_8 x5_2).f3.f0), .int .i64 ((rd_T27 l0_8 x5_2).f3.f1), .string ((rd_T27 l0_8 x5_2).f3.f2), .int .i64 ((rd_T27 l0_8 x5_2).f4), .string ((rd_T27 l0_8 x5_2).f5), .slice A103_8 ((rd_T27 l0_8 x5_2).f6).length c103_8], .int .i64 (wrap64 (a1 - 1))] ?_; (with_reducible refine (ih k2 (by have := HJ2.out; have := HK2.out; omega) ((rd_T27 l0_8 x5_2).f0) ((rd_T27 l0_8 x5_2).f1) ((rd_T27 l0_8 x5_2).f2) ((rd_T27 l0_8 x5_2).f3.f0) ((rd_T27 l0_8 x5_2).f3.f1) ((rd_T27 l0_8 x5_2).f3.f2) ((rd_T27 l0_8 x5_2).f4) ((rd_T27 l0_8 x5_2).f5) _ _ ((rd_T27 l0_8 x5_2).f6) (wrap64 (a1 - 1)) true _ ?side1 ?side2 A16.out).mono ?_); (case side1 => repeat (first | exact (Kd.C_below HR103_8.out HB.out) | (with_reducible refine Kd.C_alloc ?_ _) | (with_reducible refine Kd.C_drewN ?_ _) | (with_reducible refine Kd.C_drew ?_))); (case side2 => exact HC103_8.out); rintro e w19 ⟨rfl, hb⟩; refine ⟨_, rfl, ?_⟩;  replace BK102 := bk_ BK102 hb; replace HB := bs_ HB hb; (try clear hb)))
         go_roundg k2
         case measure => have := HJ2.out; have := HK2.out; omega
         case rel => exact ⟨_, (by first | rfl | (simp; done) | (simp [*]; done)), H', ⟨by have := HJ2.out; have := HK2.out; omega⟩, ⟨by (with_reducible repeat (first | refine blk_drewN ?_ _ | refine blk_drew ?_ | refine blk_alloc ?_ _)); exact BK102.out⟩, ⟨by repeat (first | (with_reducible first | exact HB.out | apply below_alloc | apply pw_below_drewN | apply below_drew1 | refine below_set ?_ GE102.out) | exact HB.out)⟩⟩
        ·replace c17 := Bool.eq_false_iff.mpr c17
         subst c17
         have H1 : (some false) = some r := by rw [if_neg (show ¬ (false = true) by decide)] at H; exact H
         clear H
         have H := H1
         clear H1
         obtain rfl := Option.some.inj H
         obtain ⟨C20_0, C20_1, C20_2, C20_3, C20_4, C20_5, C20_6, C20_7, C20_8⟩ := cz9_ BK102.out
         obtain ⟨F20_0, F20_1, F20_2, F20_3, F20_4, F20_5, F20_6, F20_7, F20_8⟩ := fz9_ BK102.out
         have p103 : 0 ≤ (x5_2 : Int) := dt_
         have q103 : x5_2 < (l0_8.length : Int) := dt_
         obtain ⟨ad103, A103_8, c103_8, e103, hx103_0, hx103_1, hx103_2, hx103_3, hx103_4, hx103_5, hx103_6, hx103_7, hx103_8, hl103_8, hi103_8⟩ := at_T27 HR0_8.out x5_2 p103 q103
         cases e103
         replace hx103_0 := hc_ HB hx103_0
         replace hx103_1 := hc_ HB hx103_1
         replace hx103_2 := hc_ HB hx103_2
         replace hx103_3 := hc_ HB hx103_3
         replace hx103_4 := hc_ HB hx103_4
         replace hx103_5 := hc_ HB hx103_5
         replace hx103_6 := hc_ HB hx103_6
         replace hx103_7 := hc_ HB hx103_7
         replace hx103_8 := hc_ HB hx103_8
         have HR103_8 := Aside0.mk hi103_8
         have HC103_8 := Aside0.mk hl103_8
         clear hi103_8 hl103_8
         replace p103 := eq_true p103
         replace q103 := eq_true q103
         go_wp2_with (first | ((with_reducible refine gate_callee (f := 10) rfl ?_); refine gl_ (some 47) rfl Try.func10 #[.agg #[.int .i64 ((rd_T27 l0_8 x5_2).f0), .string ((rd_T27 l0_8 x5_2).f1), .int .i64 ((rd_T27 l0_8 x5_2).f2), .bool ((rd_T27 l0_8 x5_2).f3.f0), .int .i64 ((rd_T27 l0_8 x5_2).f3.f1), .string ((rd_T27 l0_8 x5_2).f3.f2), .int .i64 ((rd_T27 l0_8 x5_2).f4), .string ((rd_T27 l0_8 x5_2).f5), .slice A103_8 ((rd_T27 l0_8 x5_2).f6).length c103_8], .int .i64 (wrap64 (a1 - 1))] ?_; (with_reducible refine (ih k2 (by have := HJ2.out; have := HK2.out; omega) ((rd_T27 l0_8 x5_2).f0) ((rd_T27 l0_8 x5_2).f1) ((rd_T27 l0_8 x5_2).f2) ((rd_T27 l0_8 x5_2).f3.f0) ((rd_T27 l0_8 x5_2).f3.f1) ((rd_T27 l0_8 x5_2).f3.f2) ((rd_T27 l0_8 x5_2).f4) ((rd_T27 l0_8 x5_2).f5) _ _ ((rd_T27 l0_8 x5_2).f6) (wrap64 (a1 - 1)) false _ ?side1 ?side2 A16.out).mono ?_); (case side1 => repeat (first | exact (Kd.C_below HR103_8.out HB.out) | (with_reducible refine Kd.C_alloc ?_ _) | (with_reducible refine Kd.C_drewN ?_ _) | (with_reducible refine Kd.C_drew ?_))); (case side2 => exact HC103_8.out); rintro e w21 ⟨rfl, hb⟩; refine ⟨_, rfl, ?_⟩;  replace BK102 := bk_ BK102 hb; replace HB := bs_ HB hb; (try clear hb)))
         go_ret
         exact en_ HB
       ·rw [if_neg c15] at H
        exact absurd H (by simp)
      ·rw [if_neg c14] at H
       have c14b0 : decide (x5_2 < (l0_8.length : Int)) = false := decide_eq_false c14
       clear c14
       obtain rfl := Option.some.inj H
       obtain ⟨C22_0, C22_1, C22_2, C22_3, C22_4, C22_5, C22_6, C22_7, C22_8⟩ := cz9_ BK102.out
       obtain ⟨F22_0, F22_1, F22_2, F22_3, F22_4, F22_5, F22_6, F22_7, F22_8⟩ := fz9_ BK102.out
       go_wp2
       go_ret
       exact en_ HB
end Go.Proofs.Ytdedmhmomoejkaa.X
namespace Go.Proofs.Ytdedmhmomoejkaa.X
open Go.RowKit Go.Proofs.YtdedmhmomoejkaaW.PrintWords Go.Proofs.YtdedmhmomoejkaaW.PrintLast
set_option linter.unusedVariables false
set_option linter.unusedSimpArgs false
def TotP {α : Type} (P : α → Prop) (g : Nat → Option α) : Prop := ∃ r, Ev g r ∧ P r
theorem TotP.some_ {α : Type} {P : α → Prop} {r : α} (h : P r) : TotP P (fun _ => some r) := ⟨r, Ev.now r, h⟩
theorem TotP.ite {α : Type} {P : α → Prop} {c : Prop} [Decidable c] {f g : Nat → Option α} (h : c → TotP P f) (h' : ¬ c → TotP P g) : TotP P (fun k => if c then f k else g k) := by
  by_cases hc : c
  · simp only [if_pos hc]; exact h hc
  · simp only [if_neg hc]; exact h' hc
theorem TotP.bind {α β : Type} {P : α → Prop} {Q : β → Prop} {g : Nat → Option α} {f : Nat → α → Option β} (h : TotP P g) (k : ∀ x, P x → TotP Q (fun n => f n x)) : TotP Q (fun n => (g n).bind (f n)) := by
  obtain ⟨x, hx, hp⟩ := h
  obtain ⟨r, hr, hq⟩ := k x hp
  exact ⟨r, Ev.bind hx hr, hq⟩
theorem TotP.succ {α : Type} {P : α → Prop} {g f : Nat → Option α} (h : ∀ k, g (k + 1) = f k) (k : TotP P f) : TotP P g := by
  obtain ⟨r, hr, hp⟩ := k
  exact ⟨r, Ev.step h hr, hp⟩
theorem Lens.le : ∀ (d e : Nat) (x : S27), d ≤ e → Lens e x → Lens d x
  | 0, _, _, _, _ => trivial
  | d + 1, 0, _, h, _ => by omega
  | d + 1, e + 1, x, h, hl => ⟨hl.1, fun y hy => Lens.le d e y (by omega) (hl.2 y hy)⟩
end Go.Proofs.Ytdedmhmomoejkaa.X
namespace Go.Proofs.Ytdedmhmomoejkaa.X
open Go.RowKit Go.Proofs.YtdedmhmomoejkaaW.PrintWords Go.Proofs.YtdedmhmomoejkaaW.PrintLast
set_option linter.unusedVariables false
set_option linter.unusedSimpArgs false
def cntL (f : S27 → Option Nat) : List S27 → Option Nat
  | [] => some 0
  | y :: r => (f y).bind fun a => (cntL f r).bind fun b => some (a + b)
def cnt : Nat → S27 → Option Nat
  | 0, _ => none
  | d + 1, x => (cntL (cnt d) x.f6).bind fun a => some (a + 1)
def AllL (p : S27 → Bool) : Nat → S27 → Prop
  | 0, _ => True
  | d + 1, x => p x = true ∧ ∀ y, y ∈ x.f6 → AllL p d y
def locB (x : S27) : Bool := fieldsB x && kidsB x.f0 x.f6
theorem mayStep_at (x : S27) (n : Nat) (hn : n ≤ 16) : mayStep x (n : Int) = (decide (n + 1 ≤ 16) && locB x, ((n + 1 : Nat) : Int)) := by
  have e : wrap64 ((n : Int) + 1) = ((n + 1 : Nat) : Int) := by rw [wrap_in (by omega) (by omega)]; omega
  unfold mayStep locB
  rw [e]
  congr 2
  by_cases h : n + 1 ≤ 16
  · rw [decide_eq_true h, decide_eq_true (by omega)]
  · rw [decide_eq_false h, decide_eq_false (by omega)]
theorem ev_may : ∀ (d : Nat) (x : S27) (n : Nat), n ≤ 16 → ((ev mayStep d x (n : Int)).1 = true ↔ ∃ c, cnt d x = some c ∧ n + c ≤ 16 ∧ AllL locB d x) ∧
    (∀ c, cnt d x = some c → n + c ≤ 16 → AllL locB d x → (ev mayStep d x (n : Int)).2 = ((n + c : Nat) : Int)) := by
  intro d
  induction d with
  | zero => intro x n hn; simp [ev, cnt]
  | succ d ih =>
    intro x n hn
    have key : ∀ (l : List S27) (n : Nat), n ≤ 16 → ((evL (ev mayStep d) l (n : Int)).1 = true ↔ ∃ c, cntL (cnt d) l = some c ∧ n + c ≤ 16 ∧ ∀ y, y ∈ l → AllL locB d y) ∧
        (∀ c, cntL (cnt d) l = some c → n + c ≤ 16 → (∀ y, y ∈ l → AllL locB d y) → (evL (ev mayStep d) l (n : Int)).2 = ((n + c : Nat) : Int)) := by
      intro l
      induction l with
      | nil =>
        intro n hn
        refine ⟨⟨fun _ => ⟨0, rfl, hn, by simp⟩, fun _ => by simp [evL]⟩, fun c hc _ _ => ?_⟩
        have : c = 0 := by simpa [cntL] using hc.symm
        subst this
        simp [evL]
      | cons y r ihl =>
        intro n hn
        obtain ⟨h1, h2⟩ := ih y n hn
        constructor
        · constructor
          · intro h
            unfold evL at h
            cases hb : (ev mayStep d y (n : Int)).1 with
            | false => rw [hb] at h; simp at h
            | true =>
              obtain ⟨a, ha, han, hal⟩ := h1.1 hb
              rw [hb, h2 a ha han hal] at h
              obtain ⟨b, hbb, hbn, hbl⟩ := (ihl (n + a) han).1.1 (by simpa using h)
              refine ⟨a + b, by simp [cntL, ha, hbb], by omega, fun z hz => ?_⟩
              rcases List.mem_cons.1 hz with rfl | hz
              · exact hal
              · exact hbl z hz
          · rintro ⟨c, hc, hcn, hcl⟩
            obtain ⟨a, ha, hc⟩ := Option.bind_eq_some_iff.1 hc
            obtain ⟨b, hb, hc⟩ := Option.bind_eq_some_iff.1 hc
            have hc : a + b = c := by simpa using hc
            have hal := hcl y (by simp)
            have e1 : (ev mayStep d y (n : Int)).1 = true := h1.2 ⟨a, ha, by omega, hal⟩
            have e2 := h2 a ha (by omega) hal
            unfold evL
            rw [e1, e2]
            simpa using (ihl (n + a) (by omega)).1.2 ⟨b, hb, by omega, fun z hz => hcl z (by simp [hz])⟩
        · intro c hc hcn hcl
          obtain ⟨a, ha, hc⟩ := Option.bind_eq_some_iff.1 hc
          obtain ⟨b, hb, hc⟩ := Option.bind_eq_some_iff.1 hc
          have hc : a + b = c := by simpa using hc
          have hal := hcl y (by simp)
          have e1 : (ev mayStep d y (n : Int)).1 = true := h1.2 ⟨a, ha, by omega, hal⟩
          have e2 := h2 a ha (by omega) hal
          unfold evL
          rw [e1, e2]
          have := (ihl (n + a) (by omega)).2 b hb (by omega) (fun z hz => hcl z (by simp [hz]))
          simp only [if_true] at this ⊢
          rw [this]
          congr 1
          omega
    have hs := mayStep_at x n hn
    constructor
    · constructor
      · intro h
        unfold ev at h
        rw [hs] at h
        by_cases hl : (decide (n + 1 ≤ 16) && locB x) = true
        · simp only [hl, if_true] at h
          simp only [Bool.and_eq_true, decide_eq_true_eq] at hl
          obtain ⟨c, hc, hcn, hcl⟩ := (key x.f6 (n + 1) hl.1).1.1 h
          exact ⟨c + 1, by simp [cnt, hc], by omega, hl.2, hcl⟩
        · have hl' : (decide (n + 1 ≤ 16) && locB x) = false := Bool.eq_false_iff.2 hl
          simp only [hl', if_false, Bool.false_eq_true] at h
      · rintro ⟨c, hc, hcn, hx, hcl⟩
        obtain ⟨a, ha, hc⟩ := Option.bind_eq_some_iff.1 hc
        have hc : a + 1 = c := by simpa using hc
        unfold ev
        rw [hs]
        have hl : (decide (n + 1 ≤ 16) && locB x) = true := by simp [hx]; omega
        simp only [hl, if_true]
        exact (key x.f6 (n + 1) (by omega)).1.2 ⟨a, ha, by omega, hcl⟩
    · rintro c hc hcn ⟨hx, hcl⟩
      obtain ⟨a, ha, hc⟩ := Option.bind_eq_some_iff.1 hc
      have hc : a + 1 = c := by simpa using hc
      unfold ev
      rw [hs]
      have hl : (decide (n + 1 ≤ 16) && locB x) = true := by simp [hx]; omega
      simp only [hl, if_true]
      rw [(key x.f6 (n + 1) (by omega)).2 a ha (by omega) hcl]
      congr 1
      omega
end Go.Proofs.Ytdedmhmomoejkaa.X
namespace Go.Proofs.Ytdedmhmomoejkaa.X
open Go.RowKit Go.Proofs.YtdedmhmomoejkaaW.PrintWords Go.Proofs.YtdedmhmomoejkaaW.PrintLast Go.Proofs.YtdedmhmomoejkaaW.PrintMore
attribute [local go_sem] max2_int max_two
set_option linter.unusedVariables false
set_option linter.unusedSimpArgs false
mutual
def firkinref17_size.j0 : Nat → Int → Int → Bool → Int → ByteArray → Int → Bool → Int → ByteArray → Int → ByteArray → List (S27) → Option (Int)
 | 0, _, _, _, _, _, _, _, _, _, _, _, _ => none
 | k + 1, x1, x2, x14, x253000, x253001, x253002, x253003, x253004, x253005, x253006, x253007, x253008 => if x14 = true then (some 17) else (firkinref17_size.l0 k x1 x2 1 0 x253000 x253001 x253002 x253003 x253004 x253005 x253006 x253007 x253008)
def firkinref17_size.l0 : Nat → Int → Int → Int → Int → Int → ByteArray → Int → Bool → Int → ByteArray → Int → ByteArray → List (S27) → Option (Int)
 | 0, _, _, _, _, _, _, _, _, _, _, _, _, _ => none
 | k + 1, x1, x2, x7, x8, x253000, x253001, x253002, x253003, x253004, x253005, x253006, x253007, x253008 => if x8 < (x253008.length : Int) then (if x7 ≤ 16 then (if 0 ≤ x8 then ((firkinref17_size.f k ((rd_T27 x253008 x8).f0) ((rd_T27 x253008 x8).f1) ((rd_T27 x253008 x8).f2) ((rd_T27 x253008 x8).f3.f0) ((rd_T27 x253008 x8).f3.f1) ((rd_T27 x253008 x8).f3.f2) ((rd_T27 x253008 x8).f4) ((rd_T27 x253008 x8).f5) ((rd_T27 x253008 x8).f6) (wrap64 (x1 - x7)) (wrap64 (x2 - 1))).bind fun t254 => (firkinref17_size.l0 k x1 x2 (wrap64 (x7 + t254)) (wrap64 (x8 + 1)) x253000 x253001 x253002 x253003 x253004 x253005 x253006 x253007 x253008)) else (none)) else (some x7)) else (some x7)
def firkinref17_size.f : Nat → Int → ByteArray → Int → Bool → Int → ByteArray → Int → ByteArray → List (S27) → Int → Int → Option (Int)
 | 0, _, _, _, _, _, _, _, _, _, _, _ => none
 | k + 1, a0_0, a0_1, a0_2, a0_3, a0_4, a0_5, a0_6, a0_7, l0_8, a1, a2 => if a2 < 1 then (firkinref17_size.j0 k a1 a2 true a0_0 a0_1 a0_2 a0_3 a0_4 a0_5 a0_6 a0_7 l0_8) else (firkinref17_size.j0 k a1 a2 (decide (a1 < 1)) a0_0 a0_1 a0_2 a0_3 a0_4 a0_5 a0_6 a0_7 l0_8)
end
theorem firkinref17_size.mono_l : ∀ k, (∀ y0 y1 y2 y3 y4 y5 y6 y7 y8 y9 y10, LeO (firkinref17_size.f k y0 y1 y2 y3 y4 y5 y6 y7 y8 y9 y10) (firkinref17_size.f (k + 1) y0 y1 y2 y3 y4 y5 y6 y7 y8 y9 y10)) ∧ (∀ y0 y1 y2 y3 y4 y5 y6 y7 y8 y9 y10 y11, LeO (firkinref17_size.j0 k y0 y1 y2 y3 y4 y5 y6 y7 y8 y9 y10 y11) (firkinref17_size.j0 (k + 1) y0 y1 y2 y3 y4 y5 y6 y7 y8 y9 y10 y11)) ∧ (∀ y0 y1 y2 y3 y4 y5 y6 y7 y8 y9 y10 y11 y12, LeO (firkinref17_size.l0 k y0 y1 y2 y3 y4 y5 y6 y7 y8 y9 y10 y11 y12) (firkinref17_size.l0 (k + 1) y0 y1 y2 y3 y4 y5 y6 y7 y8 y9 y10 y11 y12))
 | 0 => ⟨fun _ _ _ _ _ _ _ _ _ _ _ r h => by simp [firkinref17_size.f] at h, fun _ _ _ _ _ _ _ _ _ _ _ _ r h => by simp [firkinref17_size.j0] at h, fun _ _ _ _ _ _ _ _ _ _ _ _ _ r h => by simp [firkinref17_size.l0] at h⟩
 | k + 1 => by
  obtain ⟨ih0, ih1, ih2⟩ := firkinref17_size.mono_l k
  refine ⟨?_, ?_, ?_⟩
  ·intro y0 y1 y2 y3 y4 y5 y6 y7 y8 y9 y10
   unfold firkinref17_size.f
   repeat' first
   | (with_reducible exact ih0 _ _ _ _ _ _ _ _ _ _ _)
   | (with_reducible exact ih1 _ _ _ _ _ _ _ _ _ _ _ _)
   | (with_reducible exact ih2 _ _ _ _ _ _ _ _ _ _ _ _ _)
   | (with_reducible exact LeO.refl _)
   | (with_reducible exact LeO.none _)
   | (with_reducible refine LeO.ite ?_ ?_)
   | (with_reducible refine LeO.bind ?_ (fun _ => ?_))
   | exact ih0 _ _ _ _ _ _ _ _ _ _ _
   | exact ih1 _ _ _ _ _ _ _ _ _ _ _ _
   | exact ih2 _ _ _ _ _ _ _ _ _ _ _ _ _
   | exact LeO.none _
   | refine LeO.ite ?_ ?_
   | refine LeO.bind ?_ (fun _ => ?_)
  ·intro y0 y1 y2 y3 y4 y5 y6 y7 y8 y9 y10 y11
   unfold firkinref17_size.j0
   repeat' first
   | (with_reducible exact ih0 _ _ _ _ _ _ _ _ _ _ _)
   | (with_reducible exact ih1 _ _ _ _ _ _ _ _ _ _ _ _)
   | (with_reducible exact ih2 _ _ _ _ _ _ _ _ _ _ _ _ _)
   | (with_reducible exact LeO.refl _)
   | (with_reducible exact LeO.none _)
   | (with_reducible refine LeO.ite ?_ ?_)
   | (with_reducible refine LeO.bind ?_ (fun _ => ?_))
   | exact ih0 _ _ _ _ _ _ _ _ _ _ _
   | exact ih1 _ _ _ _ _ _ _ _ _ _ _ _
   | exact ih2 _ _ _ _ _ _ _ _ _ _ _ _ _
   | exact LeO.none _
   | refine LeO.ite ?_ ?_
   | refine LeO.bind ?_ (fun _ => ?_)
  ·intro y0 y1 y2 y3 y4 y5 y6 y7 y8 y9 y10 y11 y12
   unfold firkinref17_size.l0
   repeat' first
   | (with_reducible exact ih0 _ _ _ _ _ _ _ _ _ _ _)
   | (with_reducible exact ih1 _ _ _ _ _ _ _ _ _ _ _ _)
   | (with_reducible exact ih2 _ _ _ _ _ _ _ _ _ _ _ _ _)
   | (with_reducible exact LeO.refl _)
   | (with_reducible exact LeO.none _)
   | (with_reducible refine LeO.ite ?_ ?_)
   | (with_reducible refine LeO.bind ?_ (fun _ => ?_))
   | exact ih0 _ _ _ _ _ _ _ _ _ _ _
   | exact ih1 _ _ _ _ _ _ _ _ _ _ _ _
   | exact ih2 _ _ _ _ _ _ _ _ _ _ _ _ _
   | exact LeO.none _
   | refine LeO.ite ?_ ?_
   | refine LeO.bind ?_ (fun _ => ?_)
theorem firkinref17_size.mono : ∀ a0 a1 a2 a3 a4 a5 a6 a7 a8 a9 a10 k, LeO (firkinref17_size.f k a0 a1 a2 a3 a4 a5 a6 a7 a8 a9 a10) (firkinref17_size.f (k + 1) a0 a1 a2 a3 a4 a5 a6 a7 a8 a9 a10) := by
 intro a0 a1 a2 a3 a4 a5 a6 a7 a8 a9 a10 k
 obtain ⟨ih0, ih1, ih2⟩ := firkinref17_size.mono_l k
 exact ih0 a0 a1 a2 a3 a4 a5 a6 a7 a8 a9 a10
set_option maxHeartbeats 8000000 in
set_option maxRecDepth 100000 in
theorem firkinref17_size.calls (k : Nat) : ∀ (a0_0 : Int) (a0_1 : ByteArray) (a0_2 : Int) (a0_3 : Bool) (a0_4 : Int) (a0_5 : ByteArray) (a0_6 : Int) (a0_7 : ByteArray) (A0_8 : Option Addr) (c0_8 : Nat) (l0_8 : List (S27)) (a1 : Int) (a2 : Int) (r : Int) (w : World) (hr0_8 : Kd.C k27 w A0_8 l0_8.length l0_8) (hc0_8 : l0_8.length ≤ c0_8) (h : firkinref17_size.f k a0_0 a0_1 a0_2 a0_3 a0_4 a0_5 a0_6 a0_7 l0_8 a1 a2 = some r),
  Calls Try.prog 77 #[.agg #[.int .i64 a0_0, .string a0_1, .int .i64 a0_2, .bool a0_3, .int .i64 a0_4, .string a0_5, .int .i64 a0_6, .string a0_7, .slice A0_8 l0_8.length c0_8], .int .i64 a1, .int .i64 a2] w fun e w' => e = .returned (.int .i64 r) ∧ Below w.heap.size w w' := by
 induction k using Nat.strongRecOn with
 | _ k ih =>
 intro a0_0 a0_1 a0_2 a0_3 a0_4 a0_5 a0_6 a0_7 A0_8 c0_8 l0_8 a1 a2 r w hr0_8 hc0_8 h
 cases k with
 | zero => exact absurd h (by simp [firkinref17_size.f])
 | succ k =>
 simp only [firkinref17_size.f] at h
 have hu27 := Try.underlying27
 have HR0_8 := Aside0.mk hr0_8
 have HC0_8 := Aside0.mk hc0_8
 clear hr0_8 hc0_8
 have HB := Aside0.mk (Below.refl w.heap.size w)
 have H : (if a2 < 1 then (firkinref17_size.j0 k a1 a2 true a0_0 a0_1 a0_2 a0_3 a0_4 a0_5 a0_6 a0_7 l0_8) else (firkinref17_size.j0 k a1 a2 (decide (a1 < 1)) a0_0 a0_1 a0_2 a0_3 a0_4 a0_5 a0_6 a0_7 l0_8)) = some r := h
 clear h
 have HC4 := Aside0.mk H
 clear H
 go_enter Try.func77, Try.ntmps77
 go_upto_region 1 with (first | (refine bx_ (N := 3) (cs := #[.int .i64 a0_0, .string a0_1, .int .i64 a0_2, .bool a0_3, .int .i64 a0_4, .string a0_5, .int .i64 a0_6, .string a0_7, .slice A0_8 l0_8.length c0_8]) (t := 27) ?_; intro gb252 hg w5 hbox hb; have BK252 := Aside0.mk (hbox); have GW252 := ge_ HB hg; have GE252 := ge_ HB hg; replace HB := bs_ HB hb; clear hb hbox hg))
 (try simp only [Act.put, List.setIfInBounds_toArray, List.set_cons_zero, List.set_cons_succ])
 go_cut [14] (fun v14 wc => ∃ (kq : Nat) (x14_3 : Bool), v14 = .bool x14_3 ∧ Aside0 (firkinref17_size.j0 kq a1 a2 x14_3 a0_0 a0_1 a0_2 a0_3 a0_4 a0_5 a0_6 a0_7 l0_8 = some r) ∧ Aside0 (kq ≤ k) ∧ Aside0 (wc.heap[gb252]? = some (.cells #[.int .i64 a0_0, .string a0_1, .int .i64 a0_2, .bool a0_3, .int .i64 a0_4, .string a0_5, .int .i64 a0_6, .string a0_7, (.slice A0_8 l0_8.length c0_8)] 27 (0, 0))) ∧ Aside0 (Below w.heap.size w wc))
 case first =>
  have H := HC4.out
  clear HC4
  by_cases c6 : a2 < 1
  rotate_left
  focus
   rw [if_neg c6] at H
   have c6b0 : decide (a2 < 1) = false := decide_eq_false c6
  rotate_right
  focus
   rw [if_pos c6] at H
   have c6b0 : decide (a2 < 1) = true := decide_eq_true c6
  all_goals
   clear c6
   (first | rw [c6b0] | (simp only [i64_w, i32_w]; rw [c6b0]) | skip)
   have H' := Aside0.mk H
   clear H
   go_wp2
   go_meet
   case rel => exact ⟨_, _, (by first | rfl | (simp; done) | (simp [*]; done)), H', ⟨by first | omega | exact Nat.le_refl _⟩, ⟨by (with_reducible repeat (first | refine blk_drewN ?_ _ | refine blk_drew ?_ | refine blk_alloc ?_ _)); exact BK252.out⟩, ⟨by repeat (first | (with_reducible first | exact HB.out | apply below_alloc | apply pw_below_drewN | apply below_drew1 | refine below_set ?_ GE252.out) | exact HB.out)⟩⟩
 case rest =>
  clear HC4
  try clear p2
  try clear c6
  try clear c6b0
  obtain ⟨kq, x14_3, rfl, HA, HJ3, BK252, HB⟩ := hcut
  cases kq with
  | zero => exact absurd HA.out (by simp [firkinref17_size.j0])
  | succ kj3 =>
   have H := HA.out
   clear HA
   simp only [firkinref17_size.j0] at H
   by_cases c7 : x14_3 = true
   ·subst c7
    have H1 : (some 17) = some r := by rw [if_pos rfl] at H; exact H
    clear H
    have H := H1
    clear H1
    obtain rfl := Option.some.inj H
    go_wp2
    go_ret
    exact en_ HB
   ·replace c7 := Bool.eq_false_iff.mpr c7
    subst c7
    have H1 : (firkinref17_size.l0 kj3 a1 a2 1 0 a0_0 a0_1 a0_2 a0_3 a0_4 a0_5 a0_6 a0_7 l0_8) = some r := by rw [if_neg (show ¬ (false = true) by decide)] at H; exact H
    clear H
    have H := H1
    clear H1
    have H' := Aside0.mk H
    clear H
    go_wp2
    go_loopg [7, 8] kj3 (fun kq v7 v8 w' => ∃ (x7_2 : Int) (x8_2 : Int), v7 = .int .i64 x7_2 ∧ v8 = .int .i64 x8_2 ∧ Aside0 (firkinref17_size.l0 kq a1 a2 x7_2 x8_2 a0_0 a0_1 a0_2 a0_3 a0_4 a0_5 a0_6 a0_7 l0_8 = some r) ∧ Aside0 (kq ≤ kj3) ∧ Aside0 (w'.heap[gb252]? = some (.cells #[.int .i64 a0_0, .string a0_1, .int .i64 a0_2, .bool a0_3, .int .i64 a0_4, .string a0_5, .int .i64 a0_6, .string a0_7, (.slice A0_8 l0_8.length c0_8)] 27 (0, 0))) ∧ Aside0 (Below w.heap.size w w'))
    case atStart => exact ⟨_, _, (by first | rfl | (simp; done) | (simp [*]; done)), (by first | rfl | (simp; done) | (simp [*]; done)), H', ⟨Nat.le_refl _⟩, ⟨by (with_reducible repeat (first | refine blk_drewN ?_ _ | refine blk_drew ?_ | refine blk_alloc ?_ _)); exact BK252.out⟩, ⟨by repeat (first | (with_reducible first | exact HB.out | apply below_alloc | apply pw_below_drewN | apply below_drew1 | refine below_set ?_ GE252.out) | exact HB.out)⟩⟩
    case round =>
     clear H'
     try clear p2
     try clear c6
     try clear c6b0
     try clear c7
     try clear p2
     obtain ⟨x7_2, x8_2, rfl, rfl, HA, HK2, BK252, HB⟩ := hrel
     cases gk with
     | zero => exact absurd HA.out (by simp [firkinref17_size.l0])
     | succ k2 =>
      have H := HA.out
      clear HA
      simp only [firkinref17_size.l0] at H
      by_cases c8 : x8_2 < (l0_8.length : Int)
      ·rw [if_pos c8] at H
       have c8b0 : decide (x8_2 < (l0_8.length : Int)) = true := decide_eq_true c8
       clear c8
       by_cases c9 : x7_2 ≤ 16
       ·rw [if_pos c9] at H
        have c9b0 : decide (x7_2 ≤ 16) = true := decide_eq_true c9
        clear c9
        by_cases c10 : 0 ≤ x8_2
        ·rw [if_pos c10] at H
         have c10b0 : decide (0 ≤ x8_2) = true := decide_eq_true c10
         clear c10
         replace H := Option.bind_eq_some_iff.mp H
         obtain ⟨t254, A110, H⟩ := H
         replace H : (firkinref17_size.l0 k2 a1 a2 (wrap64 (x7_2 + t254)) (wrap64 (x8_2 + 1)) a0_0 a0_1 a0_2 a0_3 a0_4 a0_5 a0_6 a0_7 l0_8) = some r := H
         have A11 := Aside0.mk A110
         clear A110
         have H' := Aside0.mk H
         clear H
         obtain ⟨C12_0, C12_1, C12_2, C12_3, C12_4, C12_5, C12_6, C12_7, C12_8⟩ := cz9_ BK252.out
         obtain ⟨F12_0, F12_1, F12_2, F12_3, F12_4, F12_5, F12_6, F12_7, F12_8⟩ := fz9_ BK252.out
         have p253 : 0 ≤ (x8_2 : Int) := dt_
         have q253 : x8_2 < (l0_8.length : Int) := dt_
         obtain ⟨ad253, A253_8, c253_8, e253, hx253_0, hx253_1, hx253_2, hx253_3, hx253_4, hx253_5, hx253_6, hx253_7, hx253_8, hl253_8, hi253_8⟩ := at_T27 HR0_8.out x8_2 p253 q253
         cases e253
         replace hx253_0 := hc_ HB hx253_0
         replace hx253_1 := hc_ HB hx253_1
         replace hx253_2 := hc_ HB hx253_2
         replace hx253_3 := hc_ HB hx253_3
         replace hx253_4 := hc_ HB hx253_4
         replace hx253_5 := hc_ HB hx253_5
         replace hx253_6 := hc_ HB hx253_6
         replace hx253_7 := hc_ HB hx253_7
         replace hx253_8 := hc_ HB hx253_8
         have HR253_8 := Aside0.mk hi253_8
         have HC253_8 := Aside0.mk hl253_8
         clear hi253_8 hl253_8
         replace p253 := eq_true p253
         replace q253 := eq_true q253
         go_wp2_with (first | ((with_reducible refine gate_callee (f := 77) rfl ?_); refine gl_ (some 37) rfl Try.func77 #[.agg #[.int .i64 ((rd_T27 l0_8 x8_2).f0), .string ((rd_T27 l0_8 x8_2).f1), .int .i64 ((rd_T27 l0_8 x8_2).f2), .bool ((rd_T27 l0_8 x8_2).f3.f0), .int .i64 ((rd_T27 l0_8 x8_2).f3.f1), .string ((rd_T27 l0_8 x8_2).f3.f2), .int .i64 ((rd_T27 l0_8 x8_2).f4), .string ((rd_T27 l0_8 x8_2).f5), .slice A253_8 ((rd_T27 l0_8 x8_2).f6).length c253_8], .int .i64 (wrap64 (a1 - x7_2)), .int .i64 (wrap64 (a2 - 1))] ?_; (with_reducible refine (ih k2 (by have := HJ3.out; have := HK2.out; omega) ((rd_T27 l0_8 x8_2).f0) ((rd_T27 l0_8 x8_2).f1) ((rd_T27 l0_8 x8_2).f2) ((rd_T27 l0_8 x8_2).f3.f0) ((rd_T27 l0_8 x8_2).f3.f1) ((rd_T27 l0_8 x8_2).f3.f2) ((rd_T27 l0_8 x8_2).f4) ((rd_T27 l0_8 x8_2).f5) _ _ ((rd_T27 l0_8 x8_2).f6) (wrap64 (a1 - x7_2)) (wrap64 (a2 - 1)) t254 _ ?side1 ?side2 A11.out).mono ?_); (case side1 => repeat (first | exact (Kd.C_below HR253_8.out HB.out) | (with_reducible refine Kd.C_alloc ?_ _) | (with_reducible refine Kd.C_drewN ?_ _) | (with_reducible refine Kd.C_drew ?_))); (case side2 => exact HC253_8.out); rintro e w13 ⟨rfl, hb⟩; refine ⟨_, rfl, ?_⟩;  replace BK252 := bk_ BK252 hb; replace HB := bs_ HB hb; (try clear hb)))
         go_roundg k2
         case measure => have := HJ3.out; have := HK2.out; omega
         case rel => exact ⟨_, _, (by first | rfl | (simp; done) | (simp [*]; done)), (by first | rfl | (simp; done) | (simp [*]; done)), H', ⟨by have := HJ3.out; have := HK2.out; omega⟩, ⟨by (with_reducible repeat (first | refine blk_drewN ?_ _ | refine blk_drew ?_ | refine blk_alloc ?_ _)); exact BK252.out⟩, ⟨by repeat (first | (with_reducible first | exact HB.out | apply below_alloc | apply pw_below_drewN | apply below_drew1 | refine below_set ?_ GE252.out) | exact HB.out)⟩⟩
        ·rw [if_neg c10] at H
         exact absurd H (by simp)
       ·rw [if_neg c9] at H
        have c9b0 : decide (x7_2 ≤ 16) = false := decide_eq_false c9
        clear c9
        obtain rfl := Option.some.inj H
        obtain ⟨C14_0, C14_1, C14_2, C14_3, C14_4, C14_5, C14_6, C14_7, C14_8⟩ := cz9_ BK252.out
        obtain ⟨F14_0, F14_1, F14_2, F14_3, F14_4, F14_5, F14_6, F14_7, F14_8⟩ := fz9_ BK252.out
        go_wp2
        go_ret
        exact en_ HB
      ·rw [if_neg c8] at H
       have c8b0 : decide (x8_2 < (l0_8.length : Int)) = false := decide_eq_false c8
       clear c8
       obtain rfl := Option.some.inj H
       obtain ⟨C15_0, C15_1, C15_2, C15_3, C15_4, C15_5, C15_6, C15_7, C15_8⟩ := cz9_ BK252.out
       obtain ⟨F15_0, F15_1, F15_2, F15_3, F15_4, F15_5, F15_6, F15_7, F15_8⟩ := fz9_ BK252.out
       go_wp2
       go_ret
       exact en_ HB
end Go.Proofs.Ytdedmhmomoejkaa.X
namespace Go.Proofs.Ytdedmhmomoejkaa.X
open Go.RowKit Go.Proofs.YtdedmhmomoejkaaW.PrintWords Go.Proofs.YtdedmhmomoejkaaW.PrintLast
set_option linter.unusedVariables false
set_option linter.unusedSimpArgs false
def SizeP (d : Nat) (m : Int) (x : S27) (s : Int) : Prop :=
  1 ≤ s ∧ s ≤ 17 + 17 * d ∧ (s ≤ 16 → cnt d x = some s.toNat ∧ s ≤ m) ∧ ∀ c, cnt d x = some c → (c : Int) ≤ m → s = (c : Int)
theorem cnt_pos (d : Nat) (x : S27) (c : Nat) (h : cnt d x = some c) : 1 ≤ c := by
  cases d with
  | zero => simp [cnt] at h
  | succ d =>
    obtain ⟨a, _, h⟩ := Option.bind_eq_some_iff.1 h
    have : a + 1 = c := by simpa using h
    omega
theorem size_at : ∀ (d : Nat) (m : Int) (x : S27), d ≤ 100 → m ≤ 16 → Lens d x →
    TotP (SizeP d m x) (fun k => firkinref17_size.f k x.f0 x.f1 x.f2 x.f3.f0 x.f3.f1 x.f3.f2 x.f4 x.f5 x.f6 m (d : Int)) := by
  intro d
  induction d with
  | zero =>
    intro m x _ hm _
    refine TotP.succ (fun k => by simp only [firkinref17_size.f]; rfl) ?_
    refine TotP.ite (fun _ => ?_) (fun h => absurd (by omega) h)
    refine TotP.succ (fun k => by simp only [firkinref17_size.j0]; rfl) ?_
    exact TotP.ite (fun _ => TotP.some_ ⟨by omega, by omega, by omega, by simp [cnt]⟩) (fun h => absurd trivial h)
  | succ d ih =>
    intro m x hd hm hL
    refine TotP.succ (fun k => by simp only [firkinref17_size.f]; rfl) ?_
    refine TotP.ite (fun h => absurd h (by omega)) (fun _ => ?_)
    refine TotP.succ (fun k => by simp only [firkinref17_size.j0]; rfl) ?_
    refine TotP.ite (fun h => TotP.some_ ⟨by omega, by omega, by omega, fun c hc hcm => ?_⟩) (fun h => ?_)
    · have h1 := of_decide_eq_true h
      have := cnt_pos _ _ _ hc
      omega
    have h1 : ¬ m < 1 := fun h2 => h (decide_eq_true h2)
    have hlen : x.f6.length ≤ 9223372036854775806 := hL.1
    have key : ∀ (r : List S27) (i : Nat) (n : Int), x.f6.drop i = r → i ≤ x.f6.length → 1 ≤ n → n ≤ 17 + 17 * d + 17 → (n ≤ 16 → n ≤ m) →
        TotP (fun s : Int => 1 ≤ s ∧ s ≤ 17 + 17 * d + 17 ∧ (s ≤ 16 → ∃ b, cntL (cnt d) r = some b ∧ s = n + (b : Int) ∧ s ≤ m) ∧ ∀ b, cntL (cnt d) r = some b → n + (b : Int) ≤ m → s = n + (b : Int))
          (fun k => firkinref17_size.l0 k m ((d + 1 : Nat) : Int) n (i : Int) x.f0 x.f1 x.f2 x.f3.f0 x.f3.f1 x.f3.f2 x.f4 x.f5 x.f6) := by
      intro r
      induction r with
      | nil =>
        intro i n hr hi hn hb hnm
        have hi' : i = x.f6.length := by
          have := congrArg List.length hr
          simp at this
          omega
        refine TotP.succ (fun k => by simp only [firkinref17_size.l0]; rfl) ?_
        refine TotP.ite (fun h => absurd h (by omega)) (fun _ => TotP.some_ ⟨hn, hb, fun h => ⟨0, rfl, by simp, hnm h⟩, fun b hbb _ => ?_⟩)
        have : b = 0 := by simpa [cntL] using hbb.symm
        subst this
        simp
      | cons y r ihr =>
        intro i n hr hi hn hb hnm
        have hi' : i < x.f6.length := by
          have := congrArg List.length hr
          simp at this
          omega
        have hy : rd_T27 x.f6 (i : Int) = y := by
          have := congrArg List.head? hr
          rw [List.head?_drop] at this
          simp [rd_T27, List.getD_eq_getElem?_getD, this]
        have hr' : x.f6.drop (i + 1) = r := by
          have := congrArg List.tail hr
          simpa using this
        have hmem : y ∈ x.f6 := by rw [← hy]; exact rd27_mem x.f6 i hi'
        refine TotP.succ (fun k => by simp only [firkinref17_size.l0]; rfl) ?_
        refine TotP.ite (fun _ => ?_) (fun h => absurd (by omega) h)
        refine TotP.ite (fun hn16 => ?_) (fun hn16 => ?_)
        · refine TotP.ite (fun _ => ?_) (fun h => absurd (by omega) h)
          have e1 : wrap64 (m - n) = m - n := wrap_in (by omega) (by omega)
          have e2 : wrap64 (((d + 1 : Nat) : Int) - 1) = (d : Int) := by rw [wrap_in (by omega) (by omega)]; omega
          rw [hy, e1, e2]
          refine TotP.bind (ih (m - n) y (by omega) (by omega) (hL.2 y hmem)) (fun s hs => ?_)
          obtain ⟨hs1, hs2, hs3, hs4⟩ := hs
          have e3 : wrap64 (n + s) = n + s := wrap_in (by omega) (by omega)
          have e4 : wrap64 ((i : Int) + 1) = ((i + 1 : Nat) : Int) := by rw [wrap_in (by omega) (by omega)]; omega
          rw [e3, e4]
          have := ihr (i + 1) (n + s) hr' (by omega) (by omega) (by omega) (fun h => by have := (hs3 (by omega)).2; omega)
          obtain ⟨t, ht, ht1, ht2, ht3, ht4⟩ := this
          refine ⟨t, ht, ht1, ht2, fun h => ?_, fun b hbb hbm => ?_⟩
          · obtain ⟨b, hb1, hb2, hb3⟩ := ht3 h
            obtain ⟨hc, _⟩ := hs3 (by omega)
            refine ⟨s.toNat + b, by simp [cntL, hc, hb1], by omega, hb3⟩
          · obtain ⟨a, ha, hbb⟩ := Option.bind_eq_some_iff.1 hbb
            obtain ⟨b', hb', hbb⟩ := Option.bind_eq_some_iff.1 hbb
            have e : a + b' = b := by simpa using hbb
            have hsa := hs4 a ha (by omega)
            rw [ht4 b' hb' (by omega)]
            omega
        · refine TotP.some_ ⟨hn, hb, fun h => absurd h hn16, fun b _ hbm => by omega⟩
    obtain ⟨t, ht, ht1, ht2, ht3, ht4⟩ := key x.f6 0 1 (by simp) (by omega) (by omega) (by omega) (by omega)
    refine ⟨t, ht, ht1, by omega, fun h => ?_, fun c hc hcm => ?_⟩
    · obtain ⟨b, hb1, hb2, hb3⟩ := ht3 h
      refine ⟨?_, hb3⟩
      simp only [cnt, hb1, Option.bind_some, Option.some.injEq]
      omega
    · obtain ⟨a, ha, hc⟩ := Option.bind_eq_some_iff.1 hc
      have e : a + 1 = c := by simpa using hc
      rw [ht4 a ha (by omega)]
      omega
end Go.Proofs.Ytdedmhmomoejkaa.X
namespace Go.Proofs.Ytdedmhmomoejkaa.X
open Go.RowKit Go.Proofs.YtdedmhmomoejkaaW.PrintWords Go.Proofs.YtdedmhmomoejkaaW.PrintLast Go.Proofs.YtdedmhmomoejkaaW.PrintMore
attribute [local go_sem] max2_int max_two
set_option linter.unusedVariables false
set_option linter.unusedSimpArgs false
def firkinref12_Words.f  : Option (List ByteArray) := some (([(⟨#[97, 110, 100]⟩ : ByteArray), (⟨#[111, 114]⟩ : ByteArray), (⟨#[110, 111, 116]⟩ : ByteArray), (⟨#[105, 115]⟩ : ByteArray), (⟨#[110, 117, 108, 108]⟩ : ByteArray), (⟨#[108, 105, 107, 101]⟩ : ByteArray), (⟨#[116, 114, 117, 101]⟩ : ByteArray), (⟨#[102, 97, 108, 115, 101]⟩ : ByteArray), (⟨#[115, 101, 108, 101, 99, 116]⟩ : ByteArray), (⟨#[102, 114, 111, 109]⟩ : ByteArray), (⟨#[119, 104, 101, 114, 101]⟩ : ByteArray), (⟨#[103, 114, 111, 117, 112]⟩ : ByteArray), (⟨#[98, 121]⟩ : ByteArray), (⟨#[97, 108, 108]⟩ : ByteArray), (⟨#[99, 111, 117, 110, 116]⟩ : ByteArray), (⟨#[104, 97, 115]⟩ : ByteArray), (⟨#[115, 117, 109]⟩ : ByteArray), (⟨#[109, 105, 110]⟩ : ByteArray), (⟨#[109, 97, 120]⟩ : ByteArray)] : List ByteArray))
set_option maxHeartbeats 8000000 in
set_option maxRecDepth 100000 in
theorem firkinref12_Words.calls  (r : List ByteArray) (w : World) (h : firkinref12_Words.f  = some r) :
  Calls Try.prog 99 #[] w fun e w' => ∃ v0_ : Value, e = .returned (v0_) ∧ Kd.R Kd.string 9 w' w.heap.size (fun _ => True) v0_ r ∧ Below w.heap.size w w' := by
 have HB := Aside0.mk (Below.refl w.heap.size w)
 have H : (some (([(⟨#[97, 110, 100]⟩ : ByteArray), (⟨#[111, 114]⟩ : ByteArray), (⟨#[110, 111, 116]⟩ : ByteArray), (⟨#[105, 115]⟩ : ByteArray), (⟨#[110, 117, 108, 108]⟩ : ByteArray), (⟨#[108, 105, 107, 101]⟩ : ByteArray), (⟨#[116, 114, 117, 101]⟩ : ByteArray), (⟨#[102, 97, 108, 115, 101]⟩ : ByteArray), (⟨#[115, 101, 108, 101, 99, 116]⟩ : ByteArray), (⟨#[102, 114, 111, 109]⟩ : ByteArray), (⟨#[119, 104, 101, 114, 101]⟩ : ByteArray), (⟨#[103, 114, 111, 117, 112]⟩ : ByteArray), (⟨#[98, 121]⟩ : ByteArray), (⟨#[97, 108, 108]⟩ : ByteArray), (⟨#[99, 111, 117, 110, 116]⟩ : ByteArray), (⟨#[104, 97, 115]⟩ : ByteArray), (⟨#[115, 117, 109]⟩ : ByteArray), (⟨#[109, 105, 110]⟩ : ByteArray), (⟨#[109, 97, 120]⟩ : ByteArray)] : List ByteArray))) = some r := h
 clear h
 obtain ⟨y256, hy256⟩ : ∃ y_ : List ByteArray, y_ = (([(⟨#[97, 110, 100]⟩ : ByteArray), (⟨#[111, 114]⟩ : ByteArray), (⟨#[110, 111, 116]⟩ : ByteArray), (⟨#[105, 115]⟩ : ByteArray), (⟨#[110, 117, 108, 108]⟩ : ByteArray), (⟨#[108, 105, 107, 101]⟩ : ByteArray), (⟨#[116, 114, 117, 101]⟩ : ByteArray), (⟨#[102, 97, 108, 115, 101]⟩ : ByteArray), (⟨#[115, 101, 108, 101, 99, 116]⟩ : ByteArray), (⟨#[102, 114, 111, 109]⟩ : ByteArray), (⟨#[119, 104, 101, 114, 101]⟩ : ByteArray), (⟨#[103, 114, 111, 117, 112]⟩ : ByteArray), (⟨#[98, 121]⟩ : ByteArray), (⟨#[97, 108, 108]⟩ : ByteArray), (⟨#[99, 111, 117, 110, 116]⟩ : ByteArray), (⟨#[104, 97, 115]⟩ : ByteArray), (⟨#[115, 117, 109]⟩ : ByteArray), (⟨#[109, 105, 110]⟩ : ByteArray), (⟨#[109, 97, 120]⟩ : ByteArray)] : List ByteArray)) := ⟨_, rfl⟩
 replace H : (some y256) = some r := by first | (rw [hy256]; with_reducible exact H) | (have H2_ := (Option.bind_some _ _).symm.trans H; rw [hy256]; with_reducible exact H2_) | (have H2_ := (Option.bind_some _ _).symm.trans H; with_reducible exact H2_) | with_reducible exact H | (rw [hy256]; exact H) | exact H
 have Ny256 := Aside0.mk hy256
 clear hy256
 obtain rfl := Option.some.inj H
 go_enter Try.func99, Try.ntmps99
 go_wp2_with (first | ((with_reducible refine gate_dst (N := 1) rfl ?_); refine Kd.R_lit Kd.string _ 9 ?hg (N := 1) ?hd (xs := ([(⟨#[97, 110, 100]⟩ : ByteArray), (⟨#[111, 114]⟩ : ByteArray), (⟨#[110, 111, 116]⟩ : ByteArray), (⟨#[105, 115]⟩ : ByteArray), (⟨#[110, 117, 108, 108]⟩ : ByteArray), (⟨#[108, 105, 107, 101]⟩ : ByteArray), (⟨#[116, 114, 117, 101]⟩ : ByteArray), (⟨#[102, 97, 108, 115, 101]⟩ : ByteArray), (⟨#[115, 101, 108, 101, 99, 116]⟩ : ByteArray), (⟨#[102, 114, 111, 109]⟩ : ByteArray), (⟨#[119, 104, 101, 114, 101]⟩ : ByteArray), (⟨#[103, 114, 111, 117, 112]⟩ : ByteArray), (⟨#[98, 121]⟩ : ByteArray), (⟨#[97, 108, 108]⟩ : ByteArray), (⟨#[99, 111, 117, 110, 116]⟩ : ByteArray), (⟨#[104, 97, 115]⟩ : ByteArray), (⟨#[115, 117, 109]⟩ : ByteArray), (⟨#[109, 105, 110]⟩ : ByteArray), (⟨#[109, 97, 120]⟩ : ByteArray)] : List ByteArray)) (inner := [.string (⟨#[97, 110, 100]⟩ : ByteArray), .string (⟨#[111, 114]⟩ : ByteArray), .string (⟨#[110, 111, 116]⟩ : ByteArray), .string (⟨#[105, 115]⟩ : ByteArray), .string (⟨#[110, 117, 108, 108]⟩ : ByteArray), .string (⟨#[108, 105, 107, 101]⟩ : ByteArray), .string (⟨#[116, 114, 117, 101]⟩ : ByteArray), .string (⟨#[102, 97, 108, 115, 101]⟩ : ByteArray), .string (⟨#[115, 101, 108, 101, 99, 116]⟩ : ByteArray), .string (⟨#[102, 114, 111, 109]⟩ : ByteArray), .string (⟨#[119, 104, 101, 114, 101]⟩ : ByteArray), .string (⟨#[103, 114, 111, 117, 112]⟩ : ByteArray), .string (⟨#[98, 121]⟩ : ByteArray), .string (⟨#[97, 108, 108]⟩ : ByteArray), .string (⟨#[99, 111, 117, 110, 116]⟩ : ByteArray), .string (⟨#[104, 97, 115]⟩ : ByteArray), .string (⟨#[115, 117, 109]⟩ : ByteArray), .string (⟨#[109, 105, 110]⟩ : ByteArray), .string (⟨#[109, 97, 120]⟩ : ByteArray)]) (ok := fun _ => True) (okp := fun _ => True) ?hr ?hp (fun _ hk => hk) trivial (Below.refl _ _) (Nat.le_refl _) (by simp) ?_; (case hd => rfl); (case hg => rfl); (case hr => first | (go_simp; done) | (go_simp; rfl)); (case hp => exact (Reps.one (show Kd.M Kd.string _ _ _ (⟨#[97, 110, 100]⟩ : ByteArray) [.string (⟨#[97, 110, 100]⟩ : ByteArray)] from rfl) (Reps.one (show Kd.M Kd.string _ _ _ (⟨#[111, 114]⟩ : ByteArray) [.string (⟨#[111, 114]⟩ : ByteArray)] from rfl) (Reps.one (show Kd.M Kd.string _ _ _ (⟨#[110, 111, 116]⟩ : ByteArray) [.string (⟨#[110, 111, 116]⟩ : ByteArray)] from rfl) (Reps.one (show Kd.M Kd.string _ _ _ (⟨#[105, 115]⟩ : ByteArray) [.string (⟨#[105, 115]⟩ : ByteArray)] from rfl) (Reps.one (show Kd.M Kd.string _ _ _ (⟨#[110, 117, 108, 108]⟩ : ByteArray) [.string (⟨#[110, 117, 108, 108]⟩ : ByteArray)] from rfl) (Reps.one (show Kd.M Kd.string _ _ _ (⟨#[108, 105, 107, 101]⟩ : ByteArray) [.string (⟨#[108, 105, 107, 101]⟩ : ByteArray)] from rfl) (Reps.one (show Kd.M Kd.string _ _ _ (⟨#[116, 114, 117, 101]⟩ : ByteArray) [.string (⟨#[116, 114, 117, 101]⟩ : ByteArray)] from rfl) (Reps.one (show Kd.M Kd.string _ _ _ (⟨#[102, 97, 108, 115, 101]⟩ : ByteArray) [.string (⟨#[102, 97, 108, 115, 101]⟩ : ByteArray)] from rfl) (Reps.one (show Kd.M Kd.string _ _ _ (⟨#[115, 101, 108, 101, 99, 116]⟩ : ByteArray) [.string (⟨#[115, 101, 108, 101, 99, 116]⟩ : ByteArray)] from rfl) (Reps.one (show Kd.M Kd.string _ _ _ (⟨#[102, 114, 111, 109]⟩ : ByteArray) [.string (⟨#[102, 114, 111, 109]⟩ : ByteArray)] from rfl) (Reps.one (show Kd.M Kd.string _ _ _ (⟨#[119, 104, 101, 114, 101]⟩ : ByteArray) [.string (⟨#[119, 104, 101, 114, 101]⟩ : ByteArray)] from rfl) (Reps.one (show Kd.M Kd.string _ _ _ (⟨#[103, 114, 111, 117, 112]⟩ : ByteArray) [.string (⟨#[103, 114, 111, 117, 112]⟩ : ByteArray)] from rfl) (Reps.one (show Kd.M Kd.string _ _ _ (⟨#[98, 121]⟩ : ByteArray) [.string (⟨#[98, 121]⟩ : ByteArray)] from rfl) (Reps.one (show Kd.M Kd.string _ _ _ (⟨#[97, 108, 108]⟩ : ByteArray) [.string (⟨#[97, 108, 108]⟩ : ByteArray)] from rfl) (Reps.one (show Kd.M Kd.string _ _ _ (⟨#[99, 111, 117, 110, 116]⟩ : ByteArray) [.string (⟨#[99, 111, 117, 110, 116]⟩ : ByteArray)] from rfl) (Reps.one (show Kd.M Kd.string _ _ _ (⟨#[104, 97, 115]⟩ : ByteArray) [.string (⟨#[104, 97, 115]⟩ : ByteArray)] from rfl) (Reps.one (show Kd.M Kd.string _ _ _ (⟨#[115, 117, 109]⟩ : ByteArray) [.string (⟨#[115, 117, 109]⟩ : ByteArray)] from rfl) (Reps.one (show Kd.M Kd.string _ _ _ (⟨#[109, 105, 110]⟩ : ByteArray) [.string (⟨#[109, 105, 110]⟩ : ByteArray)] from rfl) (Reps.one (show Kd.M Kd.string _ _ _ (⟨#[109, 97, 120]⟩ : ByteArray) [.string (⟨#[109, 97, 120]⟩ : ByteArray)] from rfl) (Reps.none _ _))))))))))))))))))))); intro v257 w1 ho2 hb hg_ hnew_; clear hg_ hnew_; (first | rw [← Ny256.out] at ho2 | (simp only [Int.reduceToNat] at ho2; rw [← Ny256.out] at ho2)); have HO258 := Aside0.mk (Kd.R_lower ho2 (below_size (by repeat (first | (with_reducible first | exact HB.out | apply below_alloc | apply pw_below_drewN | apply below_drew1) | exact HB.out)))); replace HB := bs_ HB hb; clear hb ho2))
 go_ret
 exact ⟨_, by first | rfl | (simp [errW_none, errW_some] <;> rfl) | (simp [*, errW_none, errW_some] <;> rfl), by (with_reducible repeat (first | apply Kd.R_alloc | apply Kd.R_drewN | apply Kd.R_drew)); exact HO258.out, by repeat (first | (with_reducible first | exact HB.out | apply below_alloc | apply pw_below_drewN | apply below_drew1) | exact HB.out)⟩
end Go.Proofs.Ytdedmhmomoejkaa.X
namespace Go.Proofs.Ytdedmhmomoejkaa.X
open Go.RowKit Go.Proofs.YtdedmhmomoejkaaW.PrintWords Go.Proofs.YtdedmhmomoejkaaW.PrintLast Go.Proofs.YtdedmhmomoejkaaW.PrintMore
attribute [local go_sem] max2_int max_two
set_option linter.unusedVariables false
set_option linter.unusedSimpArgs false
mutual
def firkinref12_Name.l0 : Nat → ByteArray → Int → Option (Bool)
 | 0, _, _ => none
 | k + 1, x0, x3 => if x3 < (x0.size : Int) then (if 0 ≤ x3 then (if (bt x0 x3) ≥ 97 then (if (bt x0 x3) ≥ 48 then (if (bt x0 x3) ≤ 57 then (if ((bt x0 x3) ≤ 122) then (firkinref12_Name.l0 k x0 (wrap64 (x3 + 1))) else (if x3 = 0 then (some false) else (firkinref12_Name.l0 k x0 (wrap64 (x3 + 1))))) else (if ((bt x0 x3) ≤ 122) then (firkinref12_Name.l0 k x0 (wrap64 (x3 + 1))) else (if x3 = 0 then (some false) else (if ((bt x0 x3) = 95) then (firkinref12_Name.l0 k x0 (wrap64 (x3 + 1))) else (some false))))) else (if ((bt x0 x3) ≤ 122) then (firkinref12_Name.l0 k x0 (wrap64 (x3 + 1))) else (if x3 = 0 then (some false) else (if ((bt x0 x3) = 95) then (firkinref12_Name.l0 k x0 (wrap64 (x3 + 1))) else (some false))))) else (if (bt x0 x3) ≥ 48 then (if (bt x0 x3) ≤ 57 then (if x3 = 0 then (some false) else (firkinref12_Name.l0 k x0 (wrap64 (x3 + 1)))) else (if x3 = 0 then (some false) else (if ((bt x0 x3) = 95) then (firkinref12_Name.l0 k x0 (wrap64 (x3 + 1))) else (some false)))) else (if x3 = 0 then (some false) else (if ((bt x0 x3) = 95) then (firkinref12_Name.l0 k x0 (wrap64 (x3 + 1))) else (some false))))) else (none)) else ((firkinref12_Words.f).bind fun t259 => (firkinref12_Name.l1 k x0 t259 0))
def firkinref12_Name.l1 : Nat → ByteArray → List ByteArray → Int → Option (Bool)
 | 0, _, _, _ => none
 | k + 1, x0, x7, x8 => if x8 < (x7.length : Int) then (if 0 ≤ x8 then (if (rdOf ByteArray.empty x7 x8).toList = x0.toList then (some false) else (firkinref12_Name.l1 k x0 x7 (wrap64 (x8 + 1)))) else (none)) else (if (x0.size : Int) ≥ 1 then (some (decide ((x0.size : Int) ≤ 12))) else (some false))
end
def firkinref12_Name.f (k : Nat) (a0 : ByteArray) : Option (Bool) := firkinref12_Name.l0 k a0 0
theorem firkinref12_Name.mono_l : ∀ k, (∀ y0 y1, LeO (firkinref12_Name.l0 k y0 y1) (firkinref12_Name.l0 (k + 1) y0 y1)) ∧ (∀ y0 y1 y2, LeO (firkinref12_Name.l1 k y0 y1 y2) (firkinref12_Name.l1 (k + 1) y0 y1 y2))
 | 0 => ⟨fun _ _ r h => by simp [firkinref12_Name.l0] at h, fun _ _ _ r h => by simp [firkinref12_Name.l1] at h⟩
 | k + 1 => by
  obtain ⟨ih0, ih1⟩ := firkinref12_Name.mono_l k
  refine ⟨?_, ?_⟩
  ·intro y0 y1
   unfold firkinref12_Name.l0
   repeat' first
   | (with_reducible exact ih0 _ _)
   | (with_reducible exact ih1 _ _ _)
   | (with_reducible exact LeO.refl _)
   | (with_reducible exact LeO.none _)
   | (with_reducible refine LeO.ite ?_ ?_)
   | (with_reducible refine LeO.bind ?_ (fun _ => ?_))
   | exact ih0 _ _
   | exact ih1 _ _ _
   | exact LeO.none _
   | refine LeO.ite ?_ ?_
   | refine LeO.bind ?_ (fun _ => ?_)
  ·intro y0 y1 y2
   unfold firkinref12_Name.l1
   repeat' first
   | (with_reducible exact ih0 _ _)
   | (with_reducible exact ih1 _ _ _)
   | (with_reducible exact LeO.refl _)
   | (with_reducible exact LeO.none _)
   | (with_reducible refine LeO.ite ?_ ?_)
   | (with_reducible refine LeO.bind ?_ (fun _ => ?_))
   | exact ih0 _ _
   | exact ih1 _ _ _
   | exact LeO.none _
   | refine LeO.ite ?_ ?_
   | refine LeO.bind ?_ (fun _ => ?_)
theorem firkinref12_Name.mono : ∀ a0 k, LeO (firkinref12_Name.f k a0) (firkinref12_Name.f (k + 1) a0) := by
 intro a0 k
 obtain ⟨ih0, ih1⟩ := firkinref12_Name.mono_l k
 unfold firkinref12_Name.f
 repeat' first
   | (with_reducible exact ih0 _ _)
   | (with_reducible exact ih1 _ _ _)
   | (with_reducible exact LeO.refl _)
   | (with_reducible exact LeO.none _)
   | (with_reducible refine LeO.ite ?_ ?_)
   | (with_reducible refine LeO.bind ?_ (fun _ => ?_))
   | exact ih0 _ _
   | exact ih1 _ _ _
   | exact LeO.none _
   | refine LeO.ite ?_ ?_
   | refine LeO.bind ?_ (fun _ => ?_)
set_option maxHeartbeats 8000000 in
set_option maxRecDepth 100000 in
theorem firkinref12_Name.calls (k : Nat) (a0 : ByteArray) (r : Bool) (w : World) (h : firkinref12_Name.f k a0 = some r) :
  Calls Try.prog 79 #[.string a0] w fun e w' => e = .returned (.bool r) ∧ Below w.heap.size w w' := by
 have HB := Aside0.mk (Below.refl w.heap.size w)
 have H : (firkinref12_Name.l0 k a0 0) = some r := h
 clear h
 have H' := Aside0.mk H
 clear H
 go_enter Try.func79, Try.ntmps79
 go_wp2
 go_loopg [3] k (fun kq v3 w' => ∃ (x3_1 : Int), v3 = .int .i64 x3_1 ∧ Aside0 (firkinref12_Name.l0 kq a0 x3_1 = some r) ∧ Aside0 (kq ≤ k) ∧ Aside0 (Below w.heap.size w w'))
 case atStart => exact ⟨_, (by first | rfl | (simp; done) | (simp [*]; done)), H', ⟨Nat.le_refl _⟩, ⟨by repeat (first | (with_reducible first | exact HB.out | apply below_alloc | apply pw_below_drewN | apply below_drew1) | exact HB.out)⟩⟩
 case round =>
  clear H'
  obtain ⟨x3_1, rfl, HA, HK1, HB⟩ := hrel
  cases gk with
  | zero => exact absurd HA.out (by simp [firkinref12_Name.l0])
  | succ k1 =>
   have H := HA.out
   clear HA
   simp only [firkinref12_Name.l0] at H
   by_cases c2 : x3_1 < (a0.size : Int)
   ·rw [if_pos c2] at H
    have c2b0 : decide (x3_1 < (a0.size : Int)) = true := decide_eq_true c2
    clear c2
    by_cases c3 : 0 ≤ x3_1
    ·rw [if_pos c3] at H
     have c3b0 : decide (0 ≤ x3_1) = true := decide_eq_true c3
     clear c3
     by_cases c5 : (bt a0 x3_1) ≥ 97
     ·rw [if_pos c5] at H
      have c5b0 : decide (97 ≤ (bt a0 x3_1)) = true := decide_eq_true c5
      clear c5
      by_cases c6 : (bt a0 x3_1) ≥ 48
      ·rw [if_pos c6] at H
       have c6b0 : decide (48 ≤ (bt a0 x3_1)) = true := decide_eq_true c6
       clear c6
       by_cases c7 : (bt a0 x3_1) ≤ 57
       ·rw [if_pos c7] at H
        have c7b0 : decide ((bt a0 x3_1) ≤ 57) = true := decide_eq_true c7
        clear c7
        by_cases c8 : ((bt a0 x3_1) ≤ 122)
        ·rw [if_pos c8] at H
         have c8b0 : decide ((bt a0 x3_1) ≤ 122) = true := decide_eq_true c8
         clear c8
         have H' := Aside0.mk H
         clear H
         have p4 : 0 ≤ (x3_1 : Int) := dt_
         have q4 : x3_1 < (a0.size : Int) := dt_
         have hx4 := bt_at a0 x3_1
         replace p4 := eq_true p4
         replace q4 := eq_true q4
         go_wp2
         go_roundg k1
         case measure => have := HK1.out; omega
         case rel => exact ⟨_, (by first | rfl | (simp; done) | (simp [*]; done)), H', ⟨by have := HK1.out; omega⟩, ⟨by repeat (first | (with_reducible first | exact HB.out | apply below_alloc | apply pw_below_drewN | apply below_drew1) | exact HB.out)⟩⟩
        ·rw [if_neg c8] at H
         have c8b0 : decide ((bt a0 x3_1) ≤ 122) = false := decide_eq_false c8
         clear c8
         by_cases c9 : x3_1 = 0
         ·rw [if_pos c9] at H
          have c9b0 : (x3_1 == 0) = true := beq_iff_eq.mpr c9
          have c9b1 : (x3_1 != 0) = false := bne_eq_false_iff_eq.mpr c9
          clear c9
          obtain rfl := Option.some.inj H
          have p4 : 0 ≤ (x3_1 : Int) := dt_
          have q4 : x3_1 < (a0.size : Int) := dt_
          have hx4 := bt_at a0 x3_1
          replace p4 := eq_true p4
          replace q4 := eq_true q4
          go_wp2
          go_ret
          exact en_ HB
         ·rw [if_neg c9] at H
          have c9b0 : (x3_1 == 0) = false := beq_eq_false_iff_ne.mpr c9
          have c9b1 : (x3_1 != 0) = true := bne_iff_ne.mpr c9
          have H' := Aside0.mk H
          clear H
          have p4 : 0 ≤ (x3_1 : Int) := dt_
          have q4 : x3_1 < (a0.size : Int) := dt_
          have hx4 := bt_at a0 x3_1
          replace p4 := eq_true p4
          replace q4 := eq_true q4
          go_wp2
          go_roundg k1
          case measure => have := HK1.out; omega
          case rel => exact ⟨_, (by first | rfl | (simp; done) | (simp [*]; done)), H', ⟨by have := HK1.out; omega⟩, ⟨by repeat (first | (with_reducible first | exact HB.out | apply below_alloc | apply pw_below_drewN | apply below_drew1) | exact HB.out)⟩⟩
       ·rw [if_neg c7] at H
        have c7b0 : decide ((bt a0 x3_1) ≤ 57) = false := decide_eq_false c7
        clear c7
        by_cases c10 : ((bt a0 x3_1) ≤ 122)
        ·rw [if_pos c10] at H
         have c10b0 : decide ((bt a0 x3_1) ≤ 122) = true := decide_eq_true c10
         clear c10
         have H' := Aside0.mk H
         clear H
         have p4 : 0 ≤ (x3_1 : Int) := dt_
         have q4 : x3_1 < (a0.size : Int) := dt_
         have hx4 := bt_at a0 x3_1
         replace p4 := eq_true p4
         replace q4 := eq_true q4
         go_wp2
         go_roundg k1
         case measure => have := HK1.out; omega
         case rel => exact ⟨_, (by first | rfl | (simp; done) | (simp [*]; done)), H', ⟨by have := HK1.out; omega⟩, ⟨by repeat (first | (with_reducible first | exact HB.out | apply below_alloc | apply pw_below_drewN | apply below_drew1) | exact HB.out)⟩⟩
        ·rw [if_neg c10] at H
         have c10b0 : decide ((bt a0 x3_1) ≤ 122) = false := decide_eq_false c10
         clear c10
         by_cases c11 : x3_1 = 0
         ·rw [if_pos c11] at H
          have c11b0 : (x3_1 == 0) = true := beq_iff_eq.mpr c11
          have c11b1 : (x3_1 != 0) = false := bne_eq_false_iff_eq.mpr c11
          clear c11
          obtain rfl := Option.some.inj H
          have p4 : 0 ≤ (x3_1 : Int) := dt_
          have q4 : x3_1 < (a0.size : Int) := dt_
          have hx4 := bt_at a0 x3_1
          replace p4 := eq_true p4
          replace q4 := eq_true q4
          go_wp2
          go_ret
          exact en_ HB
         ·rw [if_neg c11] at H
          have c11b0 : (x3_1 == 0) = false := beq_eq_false_iff_ne.mpr c11
          have c11b1 : (x3_1 != 0) = true := bne_iff_ne.mpr c11
          by_cases c12 : ((bt a0 x3_1) = 95)
          ·rw [if_pos c12] at H
           have c12b0 : ((bt a0 x3_1) == 95) = true := beq_iff_eq.mpr c12
           have c12b1 : ((bt a0 x3_1) != 95) = false := bne_eq_false_iff_eq.mpr c12
           clear c12
           have H' := Aside0.mk H
           clear H
           have p4 : 0 ≤ (x3_1 : Int) := dt_
           have q4 : x3_1 < (a0.size : Int) := dt_
           have hx4 := bt_at a0 x3_1
           replace p4 := eq_true p4
           replace q4 := eq_true q4
           go_wp2
           go_roundg k1
           case measure => have := HK1.out; omega
           case rel => exact ⟨_, (by first | rfl | (simp; done) | (simp [*]; done)), H', ⟨by have := HK1.out; omega⟩, ⟨by repeat (first | (with_reducible first | exact HB.out | apply below_alloc | apply pw_below_drewN | apply below_drew1) | exact HB.out)⟩⟩
          ·rw [if_neg c12] at H
           have c12b0 : ((bt a0 x3_1) == 95) = false := beq_eq_false_iff_ne.mpr c12
           have c12b1 : ((bt a0 x3_1) != 95) = true := bne_iff_ne.mpr c12
           obtain rfl := Option.some.inj H
           have p4 : 0 ≤ (x3_1 : Int) := dt_
           have q4 : x3_1 < (a0.size : Int) := dt_
           have hx4 := bt_at a0 x3_1
           replace p4 := eq_true p4
           replace q4 := eq_true q4
           go_wp2
           go_ret
           exact en_ HB
      ·rw [if_neg c6] at H
       have c6b0 : decide (48 ≤ (bt a0 x3_1)) = false := decide_eq_false c6
       clear c6
       by_cases c13 : ((bt a0 x3_1) ≤ 122)
       ·rw [if_pos c13] at H
        have c13b0 : decide ((bt a0 x3_1) ≤ 122) = true := decide_eq_true c13
        clear c13
        have H' := Aside0.mk H
        clear H
        have p4 : 0 ≤ (x3_1 : Int) := dt_
        have q4 : x3_1 < (a0.size : Int) := dt_
        have hx4 := bt_at a0 x3_1
        replace p4 := eq_true p4
        replace q4 := eq_true q4
        go_wp2
        go_roundg k1
        case measure => have := HK1.out; omega
        case rel => exact ⟨_, (by first | rfl | (simp; done) | (simp [*]; done)), H', ⟨by have := HK1.out; omega⟩, ⟨by repeat (first | (with_reducible first | exact HB.out | apply below_alloc | apply pw_below_drewN | apply below_drew1) | exact HB.out)⟩⟩
       ·rw [if_neg c13] at H
        have c13b0 : decide ((bt a0 x3_1) ≤ 122) = false := decide_eq_false c13
        clear c13
        by_cases c14 : x3_1 = 0
        ·rw [if_pos c14] at H
         have c14b0 : (x3_1 == 0) = true := beq_iff_eq.mpr c14
         have c14b1 : (x3_1 != 0) = false := bne_eq_false_iff_eq.mpr c14
         clear c14
         obtain rfl := Option.some.inj H
         have p4 : 0 ≤ (x3_1 : Int) := dt_
         have q4 : x3_1 < (a0.size : Int) := dt_
         have hx4 := bt_at a0 x3_1
         replace p4 := eq_true p4
         replace q4 := eq_true q4
         go_wp2
         go_ret
         exact en_ HB
        ·rw [if_neg c14] at H
         have c14b0 : (x3_1 == 0) = false := beq_eq_false_iff_ne.mpr c14
         have c14b1 : (x3_1 != 0) = true := bne_iff_ne.mpr c14
         by_cases c15 : ((bt a0 x3_1) = 95)
         ·rw [if_pos c15] at H
          have c15b0 : ((bt a0 x3_1) == 95) = true := beq_iff_eq.mpr c15
          have c15b1 : ((bt a0 x3_1) != 95) = false := bne_eq_false_iff_eq.mpr c15
          clear c15
          have H' := Aside0.mk H
          clear H
          have p4 : 0 ≤ (x3_1 : Int) := dt_
          have q4 : x3_1 < (a0.size : Int) := dt_
          have hx4 := bt_at a0 x3_1
          replace p4 := eq_true p4
          replace q4 := eq_true q4
          go_wp2
          go_roundg k1
          case measure => have := HK1.out; omega
          case rel => exact ⟨_, (by first | rfl | (simp; done) | (simp [*]; done)), H', ⟨by have := HK1.out; omega⟩, ⟨by repeat (first | (with_reducible first | exact HB.out | apply below_alloc | apply pw_below_drewN | apply below_drew1) | exact HB.out)⟩⟩
         ·rw [if_neg c15] at H
          have c15b0 : ((bt a0 x3_1) == 95) = false := beq_eq_false_iff_ne.mpr c15
          have c15b1 : ((bt a0 x3_1) != 95) = true := bne_iff_ne.mpr c15
          obtain rfl := Option.some.inj H
          have p4 : 0 ≤ (x3_1 : Int) := dt_
          have q4 : x3_1 < (a0.size : Int) := dt_
          have hx4 := bt_at a0 x3_1
          replace p4 := eq_true p4
          replace q4 := eq_true q4
          go_wp2
          go_ret
          exact en_ HB
     ·rw [if_neg c5] at H
      have c5b0 : decide (97 ≤ (bt a0 x3_1)) = false := decide_eq_false c5
      clear c5
      by_cases c16 : (bt a0 x3_1) ≥ 48
      ·rw [if_pos c16] at H
       have c16b0 : decide (48 ≤ (bt a0 x3_1)) = true := decide_eq_true c16
       clear c16
       by_cases c17 : (bt a0 x3_1) ≤ 57
       ·rw [if_pos c17] at H
        have c17b0 : decide ((bt a0 x3_1) ≤ 57) = true := decide_eq_true c17
        clear c17
        by_cases c18 : x3_1 = 0
        ·rw [if_pos c18] at H
         have c18b0 : (x3_1 == 0) = true := beq_iff_eq.mpr c18
         have c18b1 : (x3_1 != 0) = false := bne_eq_false_iff_eq.mpr c18
         clear c18
         obtain rfl := Option.some.inj H
         have p4 : 0 ≤ (x3_1 : Int) := dt_
         have q4 : x3_1 < (a0.size : Int) := dt_
         have hx4 := bt_at a0 x3_1
         replace p4 := eq_true p4
         replace q4 := eq_true q4
         go_wp2
         go_ret
         exact en_ HB
        ·rw [if_neg c18] at H
         have c18b0 : (x3_1 == 0) = false := beq_eq_false_iff_ne.mpr c18
         have c18b1 : (x3_1 != 0) = true := bne_iff_ne.mpr c18
         have H' := Aside0.mk H
         clear H
         have p4 : 0 ≤ (x3_1 : Int) := dt_
         have q4 : x3_1 < (a0.size : Int) := dt_
         have hx4 := bt_at a0 x3_1
         replace p4 := eq_true p4
         replace q4 := eq_true q4
         go_wp2
         go_roundg k1
         case measure => have := HK1.out; omega
         case rel => exact ⟨_, (by first | rfl | (simp; done) | (simp [*]; done)), H', ⟨by have := HK1.out; omega⟩, ⟨by repeat (first | (with_reducible first | exact HB.out | apply below_alloc | apply pw_below_drewN | apply below_drew1) | exact HB.out)⟩⟩
       ·rw [if_neg c17] at H
        have c17b0 : decide ((bt a0 x3_1) ≤ 57) = false := decide_eq_false c17
        clear c17
        by_cases c19 : x3_1 = 0
        ·rw [if_pos c19] at H
         have c19b0 : (x3_1 == 0) = true := beq_iff_eq.mpr c19
         have c19b1 : (x3_1 != 0) = false := bne_eq_false_iff_eq.mpr c19
         clear c19
         obtain rfl := Option.some.inj H
         have p4 : 0 ≤ (x3_1 : Int) := dt_
         have q4 : x3_1 < (a0.size : Int) := dt_
         have hx4 := bt_at a0 x3_1
         replace p4 := eq_true p4
         replace q4 := eq_true q4
         go_wp2
         go_ret
         exact en_ HB
        ·rw [if_neg c19] at H
         have c19b0 : (x3_1 == 0) = false := beq_eq_false_iff_ne.mpr c19
         have c19b1 : (x3_1 != 0) = true := bne_iff_ne.mpr c19
         by_cases c20 : ((bt a0 x3_1) = 95)
         ·rw [if_pos c20] at H
          have c20b0 : ((bt a0 x3_1) == 95) = true := beq_iff_eq.mpr c20
          have c20b1 : ((bt a0 x3_1) != 95) = false := bne_eq_false_iff_eq.mpr c20
          clear c20
          have H' := Aside0.mk H
          clear H
          have p4 : 0 ≤ (x3_1 : Int) := dt_
          have q4 : x3_1 < (a0.size : Int) := dt_
          have hx4 := bt_at a0 x3_1
          replace p4 := eq_true p4
          replace q4 := eq_true q4
          go_wp2
          go_roundg k1
          case measure => have := HK1.out; omega
          case rel => exact ⟨_, (by first | rfl | (simp; done) | (simp [*]; done)), H', ⟨by have := HK1.out; omega⟩, ⟨by repeat (first | (with_reducible first | exact HB.out | apply below_alloc | apply pw_below_drewN | apply below_drew1) | exact HB.out)⟩⟩
         ·rw [if_neg c20] at H
          have c20b0 : ((bt a0 x3_1) == 95) = false := beq_eq_false_iff_ne.mpr c20
          have c20b1 : ((bt a0 x3_1) != 95) = true := bne_iff_ne.mpr c20
          obtain rfl := Option.some.inj H
          have p4 : 0 ≤ (x3_1 : Int) := dt_
          have q4 : x3_1 < (a0.size : Int) := dt_
          have hx4 := bt_at a0 x3_1
          replace p4 := eq_true p4
          replace q4 := eq_true q4
          go_wp2
          go_ret
          exact en_ HB
      ·rw [if_neg c16] at H
       have c16b0 : decide (48 ≤ (bt a0 x3_1)) = false := decide_eq_false c16
       clear c16
       by_cases c21 : x3_1 = 0
       ·rw [if_pos c21] at H
        have c21b0 : (x3_1 == 0) = true := beq_iff_eq.mpr c21
        have c21b1 : (x3_1 != 0) = false := bne_eq_false_iff_eq.mpr c21
        clear c21
        obtain rfl := Option.some.inj H
        have p4 : 0 ≤ (x3_1 : Int) := dt_
        have q4 : x3_1 < (a0.size : Int) := dt_
        have hx4 := bt_at a0 x3_1
        replace p4 := eq_true p4
        replace q4 := eq_true q4
        go_wp2
        go_ret
        exact en_ HB
       ·rw [if_neg c21] at H
        have c21b0 : (x3_1 == 0) = false := beq_eq_false_iff_ne.mpr c21
        have c21b1 : (x3_1 != 0) = true := bne_iff_ne.mpr c21
        by_cases c22 : ((bt a0 x3_1) = 95)
        ·rw [if_pos c22] at H
         have c22b0 : ((bt a0 x3_1) == 95) = true := beq_iff_eq.mpr c22
         have c22b1 : ((bt a0 x3_1) != 95) = false := bne_eq_false_iff_eq.mpr c22
         clear c22
         have H' := Aside0.mk H
         clear H
         have p4 : 0 ≤ (x3_1 : Int) := dt_
         have q4 : x3_1 < (a0.size : Int) := dt_
         have hx4 := bt_at a0 x3_1
         replace p4 := eq_true p4
         replace q4 := eq_true q4
         go_wp2
         go_roundg k1
         case measure => have := HK1.out; omega
         case rel => exact ⟨_, (by first | rfl | (simp; done) | (simp [*]; done)), H', ⟨by have := HK1.out; omega⟩, ⟨by repeat (first | (with_reducible first | exact HB.out | apply below_alloc | apply pw_below_drewN | apply below_drew1) | exact HB.out)⟩⟩
        ·rw [if_neg c22] at H
         have c22b0 : ((bt a0 x3_1) == 95) = false := beq_eq_false_iff_ne.mpr c22
         have c22b1 : ((bt a0 x3_1) != 95) = true := bne_iff_ne.mpr c22
         obtain rfl := Option.some.inj H
         have p4 : 0 ≤ (x3_1 : Int) := dt_
         have q4 : x3_1 < (a0.size : Int) := dt_
         have hx4 := bt_at a0 x3_1
         replace p4 := eq_true p4
         replace q4 := eq_true q4
         go_wp2
         go_ret
         exact en_ HB
    ·rw [if_neg c3] at H
     exact absurd H (by simp)
   ·rw [if_neg c2] at H
    have c2b0 : decide (x3_1 < (a0.size : Int)) = false := decide_eq_false c2
    clear c2
    replace H := Option.bind_eq_some_iff.mp H
    obtain ⟨t259, A230, H⟩ := H
    replace H : (firkinref12_Name.l1 k1 a0 t259 0) = some r := H
    have A23 := Aside0.mk A230
    clear A230
    have H' := Aside0.mk H
    clear H
    go_wp2_with (first | ((with_reducible refine gate_callee (f := 99) rfl ?_); refine gl_ (some 44) rfl Try.func99 #[] ?_; (with_reducible refine (firkinref12_Words.calls  t259 _ A23.out).mono ?_); rintro e w24 ⟨v260, rfl, ho0, hb⟩; refine ⟨_, rfl, ?_⟩; have HO261 := Aside0.mk (Kd.R_lower ho0 (below_size (by repeat (first | (with_reducible first | exact HB.out | apply below_alloc | apply pw_below_drewN | apply below_drew1) | exact HB.out)))); replace HB := bs_ HB hb; (try clear hb); (try clear ho0)))
    go_loopg [8] k1 (fun kq v8 w' => ∃ (x8_2 : Int), v8 = .int .i64 x8_2 ∧ Aside0 (firkinref12_Name.l1 kq a0 t259 x8_2 = some r) ∧ Aside0 (kq ≤ k1) ∧ Aside0 (Kd.R Kd.string 9 w' w.heap.size (fun _ => True) v260 t259) ∧ Aside0 (Below w.heap.size w w'))
    case atStart => exact ⟨_, (by first | rfl | (simp; done) | (simp [*]; done)), H', ⟨Nat.le_refl _⟩, ⟨by (with_reducible repeat (first | apply Kd.R_alloc | apply Kd.R_drewN | apply Kd.R_drew)); exact HO261.out⟩, ⟨by repeat (first | (with_reducible first | exact HB.out | apply below_alloc | apply pw_below_drewN | apply below_drew1) | exact HB.out)⟩⟩
    case round =>
     clear H'
     try clear c1
     try clear c2
     try clear c2b0
     try clear p2
     try clear c3
     try clear c3b0
     try clear p4
     try clear q4
     try clear hx4
     try clear c5
     try clear c5b0
     try clear c6
     try clear c6b0
     try clear p6
     try clear c7
     try clear c7b0
     try clear c8
     try clear c8b0
     try clear c9
     try clear c9b0
     try clear c9b1
     try clear c10
     try clear c10b0
     try clear c11
     try clear c11b0
     try clear c11b1
     try clear c12
     try clear c12b0
     try clear c12b1
     try clear c13
     try clear c13b0
     try clear c14
     try clear c14b0
     try clear c14b1
     try clear c15
     try clear c15b0
     try clear c15b1
     try clear c16
     try clear c16b0
     try clear c17
     try clear c17b0
     try clear c18
     try clear c18b0
     try clear c18b1
     try clear c19
     try clear c19b0
     try clear c19b1
     try clear c20
     try clear c20b0
     try clear c20b1
     try clear c21
     try clear c21b0
     try clear c21b1
     try clear c22
     try clear c22b0
     try clear c22b1
     try clear p4
     try clear q4
     obtain ⟨x8_2, rfl, HA, HK2, HO_7, HB⟩ := hrel
     cases gk with
     | zero => exact absurd HA.out (by simp [firkinref12_Name.l1])
     | succ k2 =>
      have H := HA.out
      clear HA
      simp only [firkinref12_Name.l1] at H
      by_cases c25 : x8_2 < (t259.length : Int)
      ·rw [if_pos c25] at H
       have c25b0 : decide (x8_2 < (t259.length : Int)) = true := decide_eq_true c25
       clear c25
       by_cases c26 : 0 ≤ x8_2
       ·rw [if_pos c26] at H
        have c26b0 : decide (0 ≤ x8_2) = true := decide_eq_true c26
        clear c26
        by_cases c27 : (rdOf ByteArray.empty t259 x8_2).toList = a0.toList
        ·rw [if_pos c27] at H
         have c27b0 : ((rdOf ByteArray.empty t259 x8_2).toList == a0.toList) = true := beq_iff_eq.mpr c27
         have c27b1 : ((rdOf ByteArray.empty t259 x8_2).toList != a0.toList) = false := bne_eq_false_iff_eq.mpr c27
         clear c27
         obtain rfl := Option.some.inj H
         obtain ⟨Ao28, co28, eo28⟩ := Kd.R_slice HO_7.out
         subst eo28
         have p262 : 0 ≤ (x8_2 : Int) := dt_
         have q262 : x8_2 < (t259.length : Int) := dt_
         obtain ⟨ad262, e262, hx262_0⟩ := Kd.at_string (Kd.R_reads' HO_7.out).2.2 x8_2 p262 q262
         cases e262
         replace p262 := eq_true p262
         replace q262 := eq_true q262
         go_wp2
         go_ret
         exact en_ HB
        ·rw [if_neg c27] at H
         have c27b0 : ((rdOf ByteArray.empty t259 x8_2).toList == a0.toList) = false := beq_eq_false_iff_ne.mpr c27
         have c27b1 : ((rdOf ByteArray.empty t259 x8_2).toList != a0.toList) = true := bne_iff_ne.mpr c27
         have H' := Aside0.mk H
         clear H
         obtain ⟨Ao29, co29, eo29⟩ := Kd.R_slice HO_7.out
         subst eo29
         have p262 : 0 ≤ (x8_2 : Int) := dt_
         have q262 : x8_2 < (t259.length : Int) := dt_
         obtain ⟨ad262, e262, hx262_0⟩ := Kd.at_string (Kd.R_reads' HO_7.out).2.2 x8_2 p262 q262
         cases e262
         replace p262 := eq_true p262
         replace q262 := eq_true q262
         go_wp2
         go_roundg k2
         case measure => have := HK1.out; have := HK2.out; omega
         case rel => exact ⟨_, (by first | rfl | (simp; done) | (simp [*]; done)), H', ⟨by have := HK1.out; have := HK2.out; omega⟩, ⟨by (with_reducible repeat (first | apply Kd.R_alloc | apply Kd.R_drewN | apply Kd.R_drew)); exact HO_7.out⟩, ⟨by repeat (first | (with_reducible first | exact HB.out | apply below_alloc | apply pw_below_drewN | apply below_drew1) | exact HB.out)⟩⟩
       ·rw [if_neg c26] at H
        exact absurd H (by simp)
      ·rw [if_neg c25] at H
       have c25b0 : decide (x8_2 < (t259.length : Int)) = false := decide_eq_false c25
       clear c25
       by_cases c30 : (a0.size : Int) ≥ 1
       ·rw [if_pos c30] at H
        have c30b0 : decide (1 ≤ (a0.size : Int)) = true := decide_eq_true c30
        have c30b1 : decide (1 ≤ a0.size) = true := decide_eq_true (by omega)
        clear c30
        obtain rfl := Option.some.inj H
        obtain ⟨Ao31, co31, eo31⟩ := Kd.R_slice HO_7.out
        subst eo31
        go_wp2
        go_ret
        exact en_ HB
       ·rw [if_neg c30] at H
        have c30b0 : decide (1 ≤ (a0.size : Int)) = false := decide_eq_false c30
        have c30b1 : decide (1 ≤ a0.size) = false := decide_eq_false (by omega)
        clear c30
        obtain rfl := Option.some.inj H
        obtain ⟨Ao32, co32, eo32⟩ := Kd.R_slice HO_7.out
        subst eo32
        go_wp2
        go_ret
        exact en_ HB
end Go.Proofs.Ytdedmhmomoejkaa.X
namespace Go.Proofs.Ytdedmhmomoejkaa.X
open Go.RowKit Go.Proofs.YtdedmhmomoejkaaW.PrintWords Go.Proofs.YtdedmhmomoejkaaW.PrintLast
set_option linter.unusedVariables false
set_option linter.unusedSimpArgs false
theorem TotP.weak {α : Type} {P Q : α → Prop} {g : Nat → Option α} (h : TotP P g) (k : ∀ r, P r → Q r) : TotP Q g := by
  obtain ⟨r, h1, h2⟩ := h
  exact ⟨r, h1, k r h2⟩
theorem TotP.const {α : Type} {P : α → Prop} {o : Option α} {r : α} (h : o = some r) (hp : P r) : TotP P (fun _ => o) := ⟨r, Ev.const h, hp⟩
theorem word_step (a b : List UInt8) (X : Option Bool) : (if a = b then some true else X).getD false = (decide (b = a) || X.getD false) := by
  by_cases h : a = b
  · subst h; simp
  · have h' : ¬ b = a := fun e => h e.symm
    simp [h, h']
theorem words_any (s : ByteArray) (ws : List ByteArray) (h : firkinref12_Words.f = some ws) : ws.length ≤ 100 ∧ (ws.any fun y => decide (y.toList = s.toList)) = wordB s := by
  simp only [firkinref12_Words.f, Option.some.injEq] at h
  subst h
  refine ⟨by decide, ?_⟩
  unfold wordB schema_word.f
  simp only [word_step, List.any_cons, List.any_nil, Option.getD_some]
  simp only [show ∀ a : Array UInt8, (⟨a⟩ : ByteArray).toList = a.toList from fun a => by rw [ByteArray.toList_eq]]
theorem name12_words (s : ByteArray) (ws : List ByteArray) (hl : ws.length ≤ 100) : ∀ (n i : Nat), i + n = ws.length →
    TotP (fun r => r = (!((ws.drop i).any fun y => decide (y.toList = s.toList)) && (decide (1 ≤ s.size) && decide (s.size ≤ 12)))) (fun k => firkinref12_Name.l1 k s ws (i : Int)) := by
  intro n
  induction n with
  | zero =>
    intro i hi
    refine TotP.succ (fun k => by simp only [firkinref12_Name.l1]; rfl) ?_
    refine TotP.ite (fun h => absurd h (by omega)) (fun _ => ?_)
    have e : ws.drop i = [] := List.drop_eq_nil_of_le (by omega)
    rw [e]
    refine TotP.ite (fun h => TotP.some_ ?_) (fun h => TotP.some_ ?_)
    · have h1 : 1 ≤ s.size := by omega
      by_cases h2 : s.size ≤ 12
      · have h3 : (s.size : Int) ≤ 12 := by omega
        simp [h1, h2, h3]
      · have h3 : ¬ (s.size : Int) ≤ 12 := by omega
        simp [h1, h2, h3]
    · have h1 : ¬ 1 ≤ s.size := by omega
      simp [h1]
  | succ n ih =>
    intro i hi
    have hlt : i < ws.length := by omega
    have hr : rdOf ByteArray.empty ws (i : Int) = ws[i] := by simp [rdOf, List.getD_eq_getElem?_getD, List.getElem?_eq_getElem hlt]
    have hd : ws.drop i = ws[i] :: ws.drop (i + 1) := by rw [List.drop_eq_getElem_cons hlt]
    refine TotP.succ (fun k => by simp only [firkinref12_Name.l1]; rfl) ?_
    refine TotP.ite (fun _ => ?_) (fun h => absurd (by omega) h)
    refine TotP.ite (fun _ => ?_) (fun h => absurd (by omega) h)
    rw [hr, hd]
    have ha : ∀ f : ByteArray → Bool, (ws[i] :: ws.drop (i + 1)).any f = (f ws[i] || (ws.drop (i + 1)).any f) := fun f => rfl
    rw [ha]
    refine TotP.ite (fun h => TotP.some_ (by rw [decide_eq_true h]; rfl)) (fun h => ?_)
    rw [wrap_in (by omega) (by omega), show (i : Int) + 1 = ((i + 1 : Nat) : Int) by omega]
    exact (ih (i + 1) (by omega)).weak (fun r hr => by rw [hr, decide_eq_false h]; rfl)
theorem name12 (s : ByteArray) (hs : s.size ≤ 9223372036854775806) : TotP (fun r => r = nameB s) (fun k => firkinref12_Name.f k s) := by
  have fin : TotP (fun r => r = (!wordB s && (decide (1 ≤ s.size) && decide (s.size ≤ 12)))) (fun k => (firkinref12_Words.f).bind fun t => firkinref12_Name.l1 k s t 0) := by
    obtain ⟨ws, hw⟩ : ∃ ws, firkinref12_Words.f = some ws := ⟨_, rfl⟩
    obtain ⟨h1, h2⟩ := words_any s ws hw
    refine TotP.bind (TotP.const hw (P := fun x => x = ws) rfl) (fun x hx => ?_)
    subst hx
    have := name12_words s x h1 x.length 0 (by omega)
    refine (by simpa using this : TotP _ _).weak (fun r hr => ?_)
    rw [hr, ← h2]
  have key : ∀ (n i : Nat), i + n = s.size → TotP (fun r => r = (nameOk (decide (i = 0)) (s.data.toList.drop i) && (!wordB s && (decide (1 ≤ s.size) && decide (s.size ≤ 12))))) (fun k => firkinref12_Name.l0 k s (i : Int)) := by
    intro n
    induction n with
    | zero =>
      intro i hi
      refine TotP.succ (fun k => by simp only [firkinref12_Name.l0]; rfl) ?_
      refine TotP.ite (fun h => absurd h (by omega)) (fun _ => ?_)
      have e : s.data.toList.drop i = [] := List.drop_eq_nil_of_le (by have : s.data.toList.length = s.size := rfl; omega)
      rw [e]
      exact fin.weak (fun r hr => by rw [hr]; simp [nameOk])
    | succ n ih =>
      intro i hi
      have hlt : i < s.size := by omega
      have hd := drop_byte s i hlt
      have hbt : bt s (i : Int) = ((s[i]).toNat : Int) := by simp [bt, hlt]
      have go1 : okB (decide (i = 0)) s[i] = true → TotP (fun r => r = (nameOk (decide (i = 0)) (s.data.toList.drop i) && (!wordB s && (decide (1 ≤ s.size) && decide (s.size ≤ 12))))) (fun k => firkinref12_Name.l0 k s (wrap64 ((i : Int) + 1))) := by
        intro h
        rw [wrap_in (by omega) (by omega), show (i : Int) + 1 = ((i + 1 : Nat) : Int) by omega, hd]
        exact (ih (i + 1) (by omega)).weak (fun r hr => by rw [hr]; simp [nameOk, h])
      have fls : okB (decide (i = 0)) s[i] = false → TotP (fun r => r = (nameOk (decide (i = 0)) (s.data.toList.drop i) && (!wordB s && (decide (1 ≤ s.size) && decide (s.size ≤ 12))))) (fun _ => some false) := by
        intro h
        rw [hd]
        exact TotP.some_ (by simp [nameOk, h])
      refine TotP.succ (fun k => by simp only [firkinref12_Name.l0]; rfl) ?_
      rw [hbt]
      generalize s[i] = b at go1 fls
      have ok1 : 97 ≤ b.toNat → b.toNat ≤ 122 → okB (decide (i = 0)) b = true := fun h1 h2 => by simp [okB, h1, h2]
      have ok2 : i ≠ 0 → 48 ≤ b.toNat → b.toNat ≤ 57 → okB (decide (i = 0)) b = true := fun h0 h1 h2 => by simp [okB, h0, h1, h2]
      have ok3 : i ≠ 0 → b.toNat = 95 → okB (decide (i = 0)) b = true := fun h0 h1 => by simp [okB, h0, h1]
      have no1 : i = 0 → ¬ (97 ≤ b.toNat ∧ b.toNat ≤ 122) → okB (decide (i = 0)) b = false := fun h0 h1 => by
        have : (decide (97 ≤ b.toNat) && decide (b.toNat ≤ 122)) = false := by rw [← Bool.decide_and]; exact decide_eq_false h1
        simp [okB, h0, this]
      have no2 : ¬ (97 ≤ b.toNat ∧ b.toNat ≤ 122) → ¬ (48 ≤ b.toNat ∧ b.toNat ≤ 57) → ¬ b.toNat = 95 → okB (decide (i = 0)) b = false := fun h1 h2 h3 => by
        have e1 : (decide (97 ≤ b.toNat) && decide (b.toNat ≤ 122)) = false := by rw [← Bool.decide_and]; exact decide_eq_false h1
        have e2 : (decide (48 ≤ b.toNat) && decide (b.toNat ≤ 57)) = false := by rw [← Bool.decide_and]; exact decide_eq_false h2
        simp [okB, e1, e2, h3]
      refine TotP.ite (fun _ => ?_) (fun h => absurd (by omega) h)
      refine TotP.ite (fun _ => ?_) (fun h => absurd (by omega) h)
      repeat' (first
        | refine TotP.ite (fun _ => ?_) (fun _ => ?_)
        | exact go1 (ok1 (by omega) (by omega))
        | exact go1 (ok2 (by omega) (by omega) (by omega))
        | exact go1 (ok3 (by omega) (by omega))
        | exact fls (no1 (by omega) (by omega))
        | exact fls (no2 (by omega) (by omega) (by omega)))
  have := key s.size 0 (by omega)
  unfold firkinref12_Name.f
  refine (by simpa using this : TotP _ _).weak (fun r hr => ?_)
  rw [hr]
  unfold nameB
  have e : decide (s.size ≠ 0) = decide (1 ≤ s.size) := by
    by_cases h0 : s.size = 0
    · rw [decide_eq_false (by omega), decide_eq_false (by omega)]
    · rw [decide_eq_true h0, decide_eq_true (by omega)]
  rw [e]
  cases decide (1 ≤ s.size) <;> cases decide (s.size ≤ 12) <;> cases wordB s <;> cases nameOk true s.data.toList <;> rfl
end Go.Proofs.Ytdedmhmomoejkaa.X
