/- Words and walks for X.pruneSafe_holds, part 13 of the texts that a program of this session laid together. -/
import Derived.Test.YtdedmhmomoejkaaS1
import Derived.Test.YtdedmhmomoejkaaS2
import Derived.Test.YtdedmhmomoejkaaS7
import Derived.Test.YtdedmhmomoejkaaS9
import Derived.Test.YtdedmhmomoejkaaS12
namespace Go.Proofs.Ytdedmhmomoejkaa.X
set_option maxHeartbeats 8000000
set_option maxRecDepth 100000
open Go.RowKit Go.Proofs.YtdedmhmomoejkaaW.PrintWords Go.Proofs.YtdedmhmomoejkaaW.PrintLast
set_option linter.unusedVariables false
set_option linter.unusedSimpArgs false
theorem mayT_not {t : Bool × Bool × Bool} {r : Int} (h : mayT t r) : mayT (t.2.1, t.1, t.2.2) (not3 r) := by
 obtain ⟨h1, h2, h3, h4, h5⟩ := h
 have : r = 0 ∨ r = 1 ∨ r = 2 := by omega
 rcases this with rfl | rfl | rfl
 ·(
 have e : not3 0 = 1 := by rw [not3, if_neg (by decide), wrap_in (by omega) (by omega)]; rfl
 rw [e]
 exact ⟨fun _ => h2 rfl, fun h => by omega, fun h => by omega, by omega, by omega⟩)
 ·(
 have e : not3 1 = 0 := by rw [not3, if_neg (by decide), wrap_in (by omega) (by omega)]; rfl
 rw [e]
 exact ⟨fun h => by omega, fun _ => h1 rfl, fun h => by omega, by omega, by omega⟩)
 ·(
 have e : not3 2 = 2 := rfl
 rw [e]
 exact ⟨fun h => by omega, fun h => by omega, fun _ => h3 rfl, by omega, by omega⟩)
theorem mayT_and {g : S27 → Int} {t : S27 → Bool × Bool × Bool} (l : List S27) (h : ∀ y, y ∈ l → mayT (t y) (g y)) : mayT (l.all (fun y => (t y).1), l.any (fun y => (t y).2.1), l.any (fun y => (t y).2.2)) (loop3 0 1 (l.map g)) := by
 rw [loop3_eq 0 (by decide)]
 by_cases h0 : (l.map g).any (· == 0) = true
 ·(
 rw [if_pos h0]
 refine ⟨fun h => by omega, fun _ => ?_, fun h => by omega, by omega, by omega⟩
 obtain ⟨z, hz, hz'⟩ := List.any_eq_true.1 h0
 obtain ⟨y, hy, rfl⟩ := List.mem_map.1 hz
 exact List.any_eq_true.2 ⟨y, hy, (h y hy).2.1 (by simpa using hz')⟩)
 ·(
 rw [if_neg h0]
 by_cases h2 : (l.map g).any (· == 2) = true
 ·(
 rw [if_pos h2]
 refine ⟨fun h => by omega, fun h => by omega, fun _ => ?_, by omega, by omega⟩
 obtain ⟨z, hz, hz'⟩ := List.any_eq_true.1 h2
 obtain ⟨y, hy, rfl⟩ := List.mem_map.1 hz
 exact List.any_eq_true.2 ⟨y, hy, (h y hy).2.2.1 (by simpa using hz')⟩)
 ·(
 rw [if_neg h2]
 refine ⟨fun _ => List.all_eq_true.2 fun y hy => ?_, fun h => by omega, fun h => by omega, by omega, by omega⟩
 have e0 : g y ≠ 0 := fun e => h0 (List.any_eq_true.2 ⟨g y, List.mem_map.2 ⟨y, hy, rfl⟩, by simp [e]⟩)
 have e2 : g y ≠ 2 := fun e => h2 (List.any_eq_true.2 ⟨g y, List.mem_map.2 ⟨y, hy, rfl⟩, by simp [e]⟩)
 have := h y hy
 exact this.1 (by have h4 := this.2.2.2.1; have h5 := this.2.2.2.2; omega)))
theorem mayT_or {g : S27 → Int} {t : S27 → Bool × Bool × Bool} (l : List S27) (h : ∀ y, y ∈ l → mayT (t y) (g y)) : mayT (l.any (fun y => (t y).1), l.all (fun y => (t y).2.1), l.any (fun y => (t y).2.2)) (loop3 1 0 (l.map g)) := by
 rw [loop3_eq 1 (by decide)]
 by_cases h0 : (l.map g).any (· == 1) = true
 ·(
 rw [if_pos h0]
 refine ⟨fun _ => ?_, fun h => by omega, fun h => by omega, by omega, by omega⟩
 obtain ⟨z, hz, hz'⟩ := List.any_eq_true.1 h0
 obtain ⟨y, hy, rfl⟩ := List.mem_map.1 hz
 exact List.any_eq_true.2 ⟨y, hy, (h y hy).1 (by simpa using hz')⟩)
 ·(
 rw [if_neg h0]
 by_cases h2 : (l.map g).any (· == 2) = true
 ·(
 rw [if_pos h2]
 refine ⟨fun h => by omega, fun h => by omega, fun _ => ?_, by omega, by omega⟩
 obtain ⟨z, hz, hz'⟩ := List.any_eq_true.1 h2
 obtain ⟨y, hy, rfl⟩ := List.mem_map.1 hz
 exact List.any_eq_true.2 ⟨y, hy, (h y hy).2.2.1 (by simpa using hz')⟩)
 ·(
 rw [if_neg h2]
 refine ⟨fun h => by omega, fun _ => List.all_eq_true.2 fun y hy => ?_, fun h => by omega, by omega, by omega⟩
 have e0 : g y ≠ 1 := fun e => h0 (List.any_eq_true.2 ⟨g y, List.mem_map.2 ⟨y, hy, rfl⟩, by simp [e]⟩)
 have e2 : g y ≠ 2 := fun e => h2 (List.any_eq_true.2 ⟨g y, List.mem_map.2 ⟨y, hy, rfl⟩, by simp [e]⟩)
 have := h y hy
 exact this.2.1 (by have h4 := this.2.2.2.1; have h5 := this.2.2.2.2; omega)))
theorem ask_safe (l0 : List S64) (l1 : List S24) (zs : List S33) (hz : l0.length = l1.length) (hm : ∀ i : Nat, i < l0.length → Br.f (Bj l0 (i : Int)).f1 (Bj l0 (i : Int)).f2 (Ax l1 (i : Int)).f0 (Ax l1 (i : Int)).f1 (Ax l1 (i : Int)).f2 = some true)
    (hcov : ∀ i : Nat, i < l0.length → Cov (Au zs (i : Int)) (Ax l1 (i : Int))) :
    ∀ (d : Nat) (x : S27), Good mayStep d x → Good (typedStep l0) d x → mayT (askR l0 zs d x) (ask3 l0 l1 d x) := by
  intro d
  induction d with
  | zero => intro x h _; obtain ⟨e, h, _⟩ := h.step; omega
  | succ d ih =>
    intro x hg ht
    obtain ⟨e, he, ⟨s, hs⟩, hmk⟩ := hg.step
    obtain ⟨e', he', ⟨s', hs'⟩, htk⟩ := ht.step
    have he1 : e = d := by omega
    have he2 : e' = d := by omega
    rw [he1] at hmk
    rw [he2] at htk
    have hk : ∀ y, y ∈ x.f6 → mayT (askR l0 zs d y) (ask3 l0 l1 d y) := fun y hy => ih y (hmk y hy) (htk y hy)
    simp only [mayStep, Bool.and_eq_true] at hs
    have hty : typedB l0 x = true := hs'
    have hf := hs.2.1
    have hone : x.f0 = 1 ∨ x.f0 = 2 ∨ x.f0 = 3 ∨ x.f0 = 4 ∨ x.f0 = 5 ∨ x.f0 = 6 ∨ x.f0 = 7 := by rcases fields_cases x hf with h | h | h <;> omega
    by_cases h5 : x.f0 = 5
    · have hk1 := kids_len x.f0 x.f6 hs.2.2 h5
      rw [askR, if_pos h5, ask3, if_pos h5]
      exact mayT_not (hk _ (rd27_mem x.f6 0 (by omega)))
    by_cases h6 : x.f0 = 6
    · rw [askR, if_neg h5, if_pos h6, ask3, if_neg h5, if_pos h6]
      exact mayT_and _ hk
    by_cases h7 : x.f0 = 7
    · rw [askR, if_neg h5, if_neg h6, if_pos h7, ask3, if_neg h5, if_neg h6, if_pos h7]
      exact mayT_or _ hk
    rw [askR, if_neg h5, if_neg h6, if_neg h7, ask3, if_neg h5, if_neg h6, if_neg h7]
    by_cases h1 : x.f0 = 1
    · rw [if_pos h1, leafR, if_pos h1]
      exact ⟨fun _ => rfl, fun h => by omega, fun h => by omega, by omega, by omega⟩
    · rw [if_neg h1, simpV]
      have hnm : nameB x.f1 = true := by rcases fields_cases x hf with h | h | h; exact absurd h h1; exact h.2; omega
      have hne := name_ne _ hnm
      have h0 : (0 : Int) ≤ colI l0 x := typed_found l0 x hty hne
      have hb : colI l0 x < l0.length := idxOf_lt (fun y : S64 => y.f0.toList == x.f1.toList) l0
      obtain ⟨j, hj⟩ : ∃ j : Nat, colI l0 x = (j : Int) := ⟨(colI l0 x).toNat, by omega⟩
      have hjl : j < l0.length := by omega
      have hzp : zoneP l0 zs x = Au zs (j : Int) := by show Au zs (colI l0 x) = _; rw [hj]
      rw [hzp]
      refine leaf_safe _ _ _ _ _ (fun h2 => (val_in x hf h2).1) (fun h2 hn => ?_) (by omega) (fun _ => by rw [hj]; exact hcov j hjl)
      have hmj := hm j hjl
      rw [← hj, hn] at hmj
      have hkd := (typed_kind l0 x hty hne).1 h2
      have hv : Br.f x.f4 false false x.f3.f1 x.f3.f2 = some true := by
        have hfe := hf
        rw [fieldsB_eq, Bool.and_eq_true] at hfe
        have h := hfe.2
        unfold opB at h
        rw [if_neg h1, if_pos h2] at h
        simp only [Bool.and_eq_true, decide_eq_true_eq] at h
        have hq := h.2.2.2
        rw [(val_in x hf h2).2] at hq
        cases hcm : Br.f x.f4 false false x.f3.f1 x.f3.f2 with
        | none => rw [hcm] at hq; simp at hq
        | some b => rw [hcm] at hq; simp at hq; rw [hq]
      rw [← hkd] at hv
      show _ = ord _ _ _ _ _ _
      rw [hn, (val_in x hf h2).2, ordV_ord _ _ _ _ _ _ _ hmj hv]
def zC : S24 := ⟨false, 0, ⟨#[]⟩⟩
def ofStep (z : S33) (i : Int) (c : S24) : S33 :=
  if c.f0 = true then ⟨z.f0, z.f1 + 1, z.f2, z.f3⟩
  else ⟨z.f0, z.f1, if z.f1 = i ∨ ordC c z.f2 < 0 then c else z.f2, if z.f1 = i ∨ ordC c z.f3 > 0 then c else z.f3⟩
def ofFrom : List S24 → Int → S33 → S33
  | [], _, z => z
  | c :: r, i, z => ofFrom r (i + 1) (ofStep z i c)
def ofZ (l : List S24) : S33 := ofFrom l 0 ⟨l.length, 0, zC, zC⟩
structure OfInv (n : Int) (p : List S24) (z : S33) : Prop where
  rows : z.f0 = n
  low : 0 ≤ z.f1
  high : z.f1 ≤ p.length
  none_ : z.f1 = p.length → z.f2 = zC ∧ z.f3 = zC
  some_ : z.f1 < p.length → (z.f2 ∈ p ∧ z.f2.f0 = false) ∧ (z.f3 ∈ p ∧ z.f3.f0 = false)
  cov : ∀ c, c ∈ p → if c.f0 = true then z.f1 > 0 else z.f1 < p.length ∧ ordC z.f2 c ≤ 0 ∧ ordC c z.f3 ≤ 0
theorem ordC_refl (a : S24) : ordC a a = 0 := (ord_zero _ _ _ _ _ _).2 ⟨rfl, rfl, rfl⟩
theorem ofStep_inv {n : Int} {p : List S24} {z : S33} (h : OfInv n p z) (c : S24) : OfInv n (p ++ [c]) (ofStep z p.length c) := by
  have hl : ((p ++ [c]).length : Int) = p.length + 1 := by simp
  obtain ⟨h1, h2, h3, h4, h5, h6⟩ := h
  unfold ofStep
  by_cases hn : c.f0 = true
  · rw [if_pos hn]
    refine ⟨h1, by show 0 ≤ z.f1 + 1; omega, by rw [hl]; show z.f1 + 1 ≤ _; omega, fun h => h4 (by rw [hl] at h; have : z.f1 + 1 = p.length + 1 := h; omega), fun h => ?_, fun d hd => ?_⟩
    · rw [hl] at h
      have h : z.f1 + 1 < p.length + 1 := h
      obtain ⟨⟨a, b⟩, ⟨e, f⟩⟩ := h5 (by omega)
      exact ⟨⟨List.mem_append_left _ a, b⟩, ⟨List.mem_append_left _ e, f⟩⟩
    · rcases List.mem_append.1 hd with hd | hd
      · have := h6 d hd
        by_cases hdn : d.f0 = true
        · rw [if_pos hdn]; show z.f1 + 1 > 0; omega
        · rw [if_neg hdn] at this ⊢
          refine ⟨?_, this.2⟩
          rw [hl]; show z.f1 + 1 < _; omega
      · obtain rfl : d = c := by simpa using hd
        rw [if_pos hn]; show z.f1 + 1 > 0; omega
  · rw [if_neg hn]
    have hn' : c.f0 = false := by simpa using hn
    have hmem : c ∈ p ++ [c] := List.mem_append_right _ (List.mem_singleton.2 rfl)
    refine ⟨h1, h2, by rw [hl]; show z.f1 ≤ _; omega, fun h => ?_, fun h => ⟨?_, ?_⟩, fun d hd => ?_⟩
    · rw [hl] at h
      have h : z.f1 = p.length + 1 := h
      omega
    · show (if z.f1 = (p.length : Int) ∨ ordC c z.f2 < 0 then c else z.f2) ∈ _ ∧ (if z.f1 = (p.length : Int) ∨ ordC c z.f2 < 0 then c else z.f2).f0 = false
      by_cases hc : z.f1 = (p.length : Int) ∨ ordC c z.f2 < 0
      · rw [if_pos hc]; exact ⟨hmem, hn'⟩
      · rw [if_neg hc]
        obtain ⟨⟨a, b⟩, _⟩ := h5 (by omega)
        exact ⟨List.mem_append_left _ a, b⟩
    · show (if z.f1 = (p.length : Int) ∨ ordC c z.f3 > 0 then c else z.f3) ∈ _ ∧ (if z.f1 = (p.length : Int) ∨ ordC c z.f3 > 0 then c else z.f3).f0 = false
      by_cases hc : z.f1 = (p.length : Int) ∨ ordC c z.f3 > 0
      · rw [if_pos hc]; exact ⟨hmem, hn'⟩
      · rw [if_neg hc]
        obtain ⟨_, ⟨a, b⟩⟩ := h5 (by omega)
        exact ⟨List.mem_append_left _ a, b⟩
    ·
      show if d.f0 = true then z.f1 > 0 else z.f1 < ((p ++ [c]).length : Int) ∧ ordC (if z.f1 = (p.length : Int) ∨ ordC c z.f2 < 0 then c else z.f2) d ≤ 0 ∧ ordC d (if z.f1 = (p.length : Int) ∨ ordC c z.f3 > 0 then c else z.f3) ≤ 0
      by_cases hdn : d.f0 = true
      · rw [if_pos hdn]
        rcases List.mem_append.1 hd with hd | hd
        · have := h6 d hd
          rw [if_pos hdn] at this
          exact this
        · obtain rfl : d = c := by simpa using hd
          exact absurd hdn hn
      · rw [if_neg hdn]
        refine ⟨by rw [hl]; omega, ?_, ?_⟩
        · rcases List.mem_append.1 hd with hd | hd
          · have := h6 d hd
            rw [if_neg hdn] at this
            by_cases hc : z.f1 = (p.length : Int) ∨ ordC c z.f2 < 0
            · rw [if_pos hc]
              rcases hc with hc | hc
              · omega
              · exact ordC_trans (by omega) this.2.1
            · rw [if_neg hc]; exact this.2.1
          · obtain rfl : d = c := by simpa using hd
            by_cases hc : z.f1 = (p.length : Int) ∨ ordC d z.f2 < 0
            · rw [if_pos hc, ordC_refl]; omega
            · rw [if_neg hc, ordC_neg d z.f2]; omega
        · rcases List.mem_append.1 hd with hd | hd
          · have := h6 d hd
            rw [if_neg hdn] at this
            by_cases hc : z.f1 = (p.length : Int) ∨ ordC c z.f3 > 0
            · rw [if_pos hc]
              rcases hc with hc | hc
              · omega
              · exact ordC_trans this.2.2 (by have := ordC_neg c z.f3; omega)
            · rw [if_neg hc]; exact this.2.2
          · obtain rfl : d = c := by simpa using hd
            by_cases hc : z.f1 = (p.length : Int) ∨ ordC d z.f3 > 0
            · rw [if_pos hc, ordC_refl]; omega
            · rw [if_neg hc]; omega
theorem ofFrom_inv {n : Int} : ∀ (l p : List S24) (z : S33), OfInv n p z → OfInv n (p ++ l) (ofFrom l p.length z)
  | [], p, z, h => by simpa [ofFrom] using h
  | c :: r, p, z, h => by
    have := ofFrom_inv r (p ++ [c]) _ (ofStep_inv h c)
    rw [List.append_assoc] at this
    have e : ((p ++ [c]).length : Int) = (p.length : Int) + 1 := by simp
    rw [e] at this
    exact this
theorem ofZ_inv (l : List S24) : OfInv l.length l (ofZ l) := by
 have := ofFrom_inv (n := l.length) l [] ⟨l.length, 0, zC, zC⟩ ⟨rfl, by show (0 : Int) ≤ 0; omega, by show (0 : Int) ≤ _; simp, fun _ => ⟨rfl, rfl⟩, fun h => by simp at h, fun c hc => by simp at hc⟩
 simpa [ofZ] using this
theorem ofZ_cov (l : List S24) (c : S24) (hc : c ∈ l) : Cov (ofZ l) c := by
 have h := ofZ_inv l
 have := h.cov c hc
 unfold Cov
 by_cases hn : c.f0 = true
 ·rw [if_pos hn] at this ⊢; exact this
 ·(
 rw [if_neg hn] at this ⊢
 refine ⟨?_, this.2⟩
 rw [h.rows]; omega)
open Go.Proofs.YtdedmhmomoejkaaW.PrintMore
attribute [local go_sem] max2_int max_two
mutual
def Be.l0 : Nat → List (S24) → Int → Option (Bool)
 | 0, _, _ => none
 | k + 1, x0, x3 => if x3 < (x0.length : Int) then (Be.j1 k x0 x3 (decide (x3 < 200))) else (Be.j1 k x0 x3 false)
def Be.j1 : Nat → List (S24) → Int → Bool → Option (Bool)
 | 0, _, _, _ => none
 | k + 1, x0, x3, x11 => if x11 = true then (if 0 ≤ x3 then (if x3 < (x0.length : Int) then (if (((Ax x0 x3).f2).size : Int) > 60 then (some false) else (Be.l0 k x0 (wrap64 (x3 + 1)))) else (none)) else (none)) else (some (decide ((x0.length : Int) ≤ 100)))
end
def Be.f (k : Nat) (l0 : List (S24)) : Option (Bool) := Be.l0 k l0 0
theorem Be.mono_l : ∀ k, (∀ y0 y1, LeO (Be.l0 k y0 y1) (Be.l0 (k + 1) y0 y1)) ∧ (∀ y0 y1 y2, LeO (Be.j1 k y0 y1 y2) (Be.j1 (k + 1) y0 y1 y2))
 | 0 => ⟨fun _ _ r h => by simp [Be.l0] at h, fun _ _ _ r h => by simp [Be.j1] at h⟩
 | k + 1 => by
  obtain ⟨ih0, ih1⟩ := Be.mono_l k
  refine ⟨?_, ?_⟩
  focus intro y0 y1;unfold Be.l0
  rotate_left
  focus intro y0 y1 y2;unfold Be.j1
  rotate_left
  all_goals repeat' first|(with_reducible first|exact ih0 _ _|exact ih1 _ _ _|exact LeO.refl _|exact LeO.none _|refine LeO.ite ?_ ?_|refine LeO.bind ?_ fun _=>?_)|exact ih0 _ _|exact ih1 _ _ _|exact LeO.none _|refine LeO.ite ?_ ?_|refine LeO.bind ?_ fun _=>?_
theorem Be.mono : ∀ a0 k, LeO (Be.f k a0) (Be.f (k + 1) a0) := by
 intro a0 k
 obtain ⟨ih0, ih1⟩ := Be.mono_l k
 unfold Be.f
 repeat' first|(with_reducible first|exact ih0 _ _|exact ih1 _ _ _|exact LeO.refl _|exact LeO.none _|refine LeO.ite ?_ ?_|refine LeO.bind ?_ fun _=>?_)|exact ih0 _ _|exact ih1 _ _ _|exact LeO.none _|refine LeO.ite ?_ ?_|refine LeO.bind ?_ fun _=>?_
theorem Be.calls (k : Nat) (A0 : Option Addr) (c0 : Nat) (l0 : List (S24)) (r : Bool) (w : World) (hr0 : Kd.C k24 w A0 l0.length l0) (hc0 : l0.length ≤ c0) (h : Be.f k l0 = some r) :
  Calls Try.prog 34 #[.slice A0 l0.length c0] w fun e w' => e = .returned (.bool r) ∧ Bp w w' := by
 have HR0 := Aa.mk hr0
 have HC0 := Aa.mk hc0
 clear hr0 hc0
 have H : (Be.l0 k l0 0) = some r := h
 clear h
 have H' := Aa.mk H
 clear H
 go_enter Try.func34, Try.ntmps34
 go_wp2
 go_loopg [3] k (fun kq v3 w' => ∃ (x3_1 : Int), v3 = .int .i64 x3_1 ∧ Aa (Be.l0 kq l0 x3_1 = some r) ∧ Aa (kq ≤ k) ∧ Bp w w')
 case atStart => exact ⟨_, (by first | rfl | (simp; done) | (simp [*]; done)), H', ⟨Nat.le_refl _⟩, by repeat (first | exact Bp.refl _ | apply Bp.step)⟩
 case round =>(
 clear H'
 obtain ⟨x3_1, rfl, HA, HK1, ⟨m1, rfl⟩⟩ := hrel
 cases gk with
 | zero => exact absurd HA.out (by simp [Be.l0])
 | succ k1 =>(
 have H := HA.out
 clear HA
 simp only [Be.l0] at H
 have HC2 := Aa.mk H
 clear H
 go_upto_region 2 with (fail)
 go_cut [11] (fun v11 wc => ∃ (kq : Nat) (x11_1 : Bool), v11 = .bool x11_1 ∧ Aa (Be.j1 kq l0 x3_1 x11_1 = some r) ∧ Aa (kq ≤ k1) ∧ Bp w wc)
 case first =>(
 have H := HC2.out
 clear HC2
 by_cases c3 : x3_1 < (l0.length : Int)
 rotate_left
 focus(
 rw [if_neg c3] at H
 have c3b0 : decide (x3_1 < (l0.length : Int)) = false := decide_eq_false c3)
 rotate_right
 focus(
 rw [if_pos c3] at H
 have c3b0 : decide (x3_1 < (l0.length : Int)) = true := decide_eq_true c3)
 all_goals(
 clear c3
 (first | rw [c3b0] | (simp only [i64_w, i32_w]; rw [c3b0]) | skip)
 have H' := Aa.mk H
 clear H
 go_wp2
 go_meet
 case rel => exact ⟨_, _, (by first | rfl | (simp; done) | (simp [*]; done)), H', ⟨by have := HK1.out; first | omega | exact Nat.le_refl _⟩, by repeat (first | exact Bp.refl _ | apply Bp.step)⟩))
 case rest =>(
 clear HC2
 try clear c3
 try clear c3b0
 obtain ⟨kq, x11_1, rfl, HA, HJ1, ⟨mc1, rfl⟩⟩ := hcut
 cases kq with
 | zero => exact absurd HA.out (by simp [Be.j1])
 | succ kj1 =>(
 have H := HA.out
 clear HA
 simp only [Be.j1] at H
 by_cases c4 : x11_1 = true
 ·(
 subst c4
 have H1 : (if 0 ≤ x3_1 then (if x3_1 < (l0.length : Int) then (if (((Ax l0 x3_1).f2).size : Int) > 60 then (some false) else (Be.l0 kj1 l0 (wrap64 (x3_1 + 1)))) else (none)) else (none)) = some r := by rw [if_pos rfl] at H; exact H
 clear H
 have H := H1
 clear H1
 by_cases c5 : 0 ≤ x3_1
 ·(
 rw [if_pos c5] at H
 have c5b0 : decide (0 ≤ x3_1) = true := decide_eq_true c5
 clear c5
 by_cases c6 : x3_1 < (l0.length : Int)
 ·(
 rw [if_pos c6] at H
 have c6b0 : decide (x3_1 < (l0.length : Int)) = true := decide_eq_true c6
 clear c6
 by_cases c7 : (((Ax l0 x3_1).f2).size : Int) > 60
 ·(
 rw [if_pos c7] at H
 have c7b0 : decide (60 < (((Ax l0 x3_1).f2).size : Int)) = true := decide_eq_true c7
 have c7b1 : decide (60 < ((Ax l0 x3_1).f2).size) = true := decide_eq_true (by omega)
 clear c7
 obtain rfl := Dp H
 have p340 : 0 ≤ (x3_1 : Int) := dt_
 have q340 : x3_1 < (l0.length : Int) := dt_
 obtain ⟨ad340, e340, hx340_0, hx340_1, hx340_2⟩ := at_T24 HR0.out x3_1 p340 q340
 cases e340
 replace p340 := eq_true p340
 replace q340 := eq_true q340
 go_wp2
 go_ret
 exact ⟨by first | rfl | (simp; done) | (simp [*]; done), by repeat (first | exact Bp.refl _ | apply Bp.step)⟩)
 ·(
 rw [if_neg c7] at H
 have c7b0 : decide (60 < (((Ax l0 x3_1).f2).size : Int)) = false := decide_eq_false c7
 have c7b1 : decide (60 < ((Ax l0 x3_1).f2).size) = false := decide_eq_false (by omega)
 clear c7
 have H' := Aa.mk H
 clear H
 have p340 : 0 ≤ (x3_1 : Int) := dt_
 have q340 : x3_1 < (l0.length : Int) := dt_
 obtain ⟨ad340, e340, hx340_0, hx340_1, hx340_2⟩ := at_T24 HR0.out x3_1 p340 q340
 cases e340
 replace p340 := eq_true p340
 replace q340 := eq_true q340
 go_wp2
 go_roundg kj1
 case measure => have := HK1.out; have := HJ1.out; omega
 case rel => exact ⟨_, (by first | rfl | (simp; done) | (simp [*]; done)), H', ⟨by have := HK1.out; have := HJ1.out; omega⟩, by repeat (first | exact Bp.refl _ | apply Bp.step)⟩))
 ·(
 rw [if_neg c6] at H
 exact absurd H (by simp)))
 ·(
 rw [if_neg c5] at H
 exact absurd H (by simp)))
 ·(
 replace c4 := Dq c4
 subst c4
 have H1 : (some (decide ((l0.length : Int) ≤ 100))) = some r := by rw [if_neg (show ¬ (false = true) by decide)] at H; exact H
 clear H
 have H := H1
 clear H1
 obtain rfl := Dp H
 go_wp2
 go_ret
 exact ⟨by first | rfl | (simp; done) | (simp [*]; done), by repeat (first | exact Bp.refl _ | apply Bp.step)⟩)))))
mutual
def Bc.l0 : Nat → List (S64) → List (List (S24)) → Int → Option (Bool)
 | 0, _, _, _ => none
 | k + 1, x0, x1, x5 => if x5 < (x1.length : Int) then (Bc.j1 k x0 x1 x5 (decide (x5 < 250))) else (Bc.j1 k x0 x1 x5 false)
def Bc.j1 : Nat → List (S64) → List (List (S24)) → Int → Bool → Option (Bool)
 | 0, _, _, _, _ => none
 | k + 1, x0, x1, x5, x13 => if x13 = true then (if 0 ≤ x5 then (if x5 < (x1.length : Int) then (if ((rd_L8 x1 x5).length : Int) > 10 then (some false) else ((Be.f k (rd_L8 x1 x5)).bind fun t343 => (if t343 = true then (Bc.l0 k x0 x1 (wrap64 (x5 + 1))) else (some false)))) else (none)) else (none)) else ((Bd.f k x0).bind fun t344 => (if t344 = true then (some (decide ((x1.length : Int) ≤ 210))) else (some false)))
end
def Bc.f (k : Nat) (l0 : List (S64)) (l1 : List (List (S24))) : Option (Bool) := Bc.l0 k l0 l1 0
theorem Bc.mono_l : ∀ k, (∀ y0 y1 y2, LeO (Bc.l0 k y0 y1 y2) (Bc.l0 (k + 1) y0 y1 y2)) ∧ (∀ y0 y1 y2 y3, LeO (Bc.j1 k y0 y1 y2 y3) (Bc.j1 (k + 1) y0 y1 y2 y3))
 | 0 => ⟨fun _ _ _ r h => by simp [Bc.l0] at h, fun _ _ _ _ r h => by simp [Bc.j1] at h⟩
 | k + 1 => by
  obtain ⟨ih0, ih1⟩ := Bc.mono_l k
  refine ⟨?_, ?_⟩
  focus intro y0 y1 y2;unfold Bc.l0
  rotate_left
  focus intro y0 y1 y2 y3;unfold Bc.j1
  rotate_left
  all_goals repeat' first|(with_reducible first|exact ih0 _ _ _|exact ih1 _ _ _ _|exact Be.mono _ _|exact Bd.mono _ _|exact LeO.refl _|exact LeO.none _|refine LeO.ite ?_ ?_|refine LeO.bind ?_ fun _=>?_)|exact ih0 _ _ _|exact ih1 _ _ _ _|exact Be.mono _ _|exact Bd.mono _ _|exact LeO.none _|refine LeO.ite ?_ ?_|refine LeO.bind ?_ fun _=>?_
theorem Bc.mono : ∀ a0 a1 k, LeO (Bc.f k a0 a1) (Bc.f (k + 1) a0 a1) := by
 intro a0 a1 k
 obtain ⟨ih0, ih1⟩ := Bc.mono_l k
 unfold Bc.f
 repeat' first|(with_reducible first|exact ih0 _ _ _|exact ih1 _ _ _ _|exact Be.mono _ _|exact Bd.mono _ _|exact LeO.refl _|exact LeO.none _|refine LeO.ite ?_ ?_|refine LeO.bind ?_ fun _=>?_)|exact ih0 _ _ _|exact ih1 _ _ _ _|exact Be.mono _ _|exact Bd.mono _ _|exact LeO.none _|refine LeO.ite ?_ ?_|refine LeO.bind ?_ fun _=>?_
theorem Bc.calls (k : Nat) (A0 : Option Addr) (c0 : Nat) (l0 : List (S64)) (A1 : Option Addr) (c1 : Nat) (l1 : List (List (S24))) (r : Bool) (w : World) (hr0 : Kd.C k64 w A0 l0.length l0) (hc0 : l0.length ≤ c0) (hr1 : Kd.C (Kd.slice 24 k24) w A1 l1.length l1) (hc1 : l1.length ≤ c1) (h : Bc.f k l0 l1 = some r) :
  Calls Try.prog 16 #[.slice A0 l0.length c0, .slice A1 l1.length c1] w fun e w' => e = .returned (.bool r) ∧ Bp w w' := by
 have HR0 := Aa.mk hr0
 have HC0 := Aa.mk hc0
 clear hr0 hc0
 have HR1 := Aa.mk hr1
 have HC1 := Aa.mk hc1
 clear hr1 hc1
 have H : (Bc.l0 k l0 l1 0) = some r := h
 clear h
 have H' := Aa.mk H
 clear H
 go_enter Try.func16, Try.ntmps16
 go_wp2
 go_loopg [5] k (fun kq v5 w' => ∃ (x5_1 : Int), v5 = .int .i64 x5_1 ∧ Aa (Bc.l0 kq l0 l1 x5_1 = some r) ∧ Aa (kq ≤ k) ∧ Bp w w')
 case atStart => exact ⟨_, (by first | rfl | (simp; done) | (simp [*]; done)), H', ⟨Nat.le_refl _⟩, by repeat (first | exact Bp.refl _ | apply Bp.step)⟩
 case round =>(
 clear H'
 try clear c1
 obtain ⟨x5_1, rfl, HA, HK1, ⟨m1, rfl⟩⟩ := hrel
 cases gk with
 | zero => exact absurd HA.out (by simp [Bc.l0])
 | succ k1 =>(
 have H := HA.out
 clear HA
 simp only [Bc.l0] at H
 have HC3 := Aa.mk H
 clear H
 go_upto_region 2 with (fail)
 go_cut [13] (fun v13 wc => ∃ (kq : Nat) (x13_2 : Bool), v13 = .bool x13_2 ∧ Aa (Bc.j1 kq l0 l1 x5_1 x13_2 = some r) ∧ Aa (kq ≤ k1) ∧ Bp w wc)
 case first =>(
 have H := HC3.out
 clear HC3
 by_cases c4 : x5_1 < (l1.length : Int)
 rotate_left
 focus(
 rw [if_neg c4] at H
 have c4b0 : decide (x5_1 < (l1.length : Int)) = false := decide_eq_false c4)
 rotate_right
 focus(
 rw [if_pos c4] at H
 have c4b0 : decide (x5_1 < (l1.length : Int)) = true := decide_eq_true c4)
 all_goals(
 clear c4
 (first | rw [c4b0] | (simp only [i64_w, i32_w]; rw [c4b0]) | skip)
 have H' := Aa.mk H
 clear H
 go_wp2
 go_meet
 case rel => exact ⟨_, _, (by first | rfl | (simp; done) | (simp [*]; done)), H', ⟨by have := HK1.out; first | omega | exact Nat.le_refl _⟩, by repeat (first | exact Bp.refl _ | apply Bp.step)⟩))
 case rest =>(
 clear HC3
 try clear c4
 try clear c4b0
 obtain ⟨kq, x13_2, rfl, HA, HJ2, ⟨mc2, rfl⟩⟩ := hcut
 cases kq with
 | zero => exact absurd HA.out (by simp [Bc.j1])
 | succ kj2 =>(
 have H := HA.out
 clear HA
 simp only [Bc.j1] at H
 by_cases c5 : x13_2 = true
 ·(
 subst c5
 have H1 : (if 0 ≤ x5_1 then (if x5_1 < (l1.length : Int) then (if ((rd_L8 l1 x5_1).length : Int) > 10 then (some false) else ((Be.f kj2 (rd_L8 l1 x5_1)).bind fun t343 => (if t343 = true then (Bc.l0 kj2 l0 l1 (wrap64 (x5_1 + 1))) else (some false)))) else (none)) else (none)) = some r := by rw [if_pos rfl] at H; exact H
 clear H
 have H := H1
 clear H1
 by_cases c6 : 0 ≤ x5_1
 ·(
 rw [if_pos c6] at H
 have c6b0 : decide (0 ≤ x5_1) = true := decide_eq_true c6
 clear c6
 by_cases c7 : x5_1 < (l1.length : Int)
 ·(
 rw [if_pos c7] at H
 have c7b0 : decide (x5_1 < (l1.length : Int)) = true := decide_eq_true c7
 clear c7
 by_cases c8 : ((rd_L8 l1 x5_1).length : Int) > 10
 ·(
 rw [if_pos c8] at H
 have c8b0 : decide (10 < ((rd_L8 l1 x5_1).length : Int)) = true := decide_eq_true c8
 have c8b1 : decide (10 < (rd_L8 l1 x5_1).length) = true := decide_eq_true (by omega)
 clear c8
 obtain rfl := Dp H
 have p341 : 0 ≤ (x5_1 : Int) := dt_
 have q341 : x5_1 < (l1.length : Int) := dt_
 obtain ⟨ad341, A341_0, c341_0, e341, hx341_0, hl341_0, hi341_0⟩ := at_L8 HR1.out x5_1 p341 q341
 cases e341
 have HR341_0 := Aa.mk hi341_0
 have HC341_0 := Aa.mk hl341_0
 clear hi341_0 hl341_0
 replace p341 := eq_true p341
 replace q341 := eq_true q341
 go_wp2
 go_ret
 exact ⟨by first | rfl | (simp; done) | (simp [*]; done), by repeat (first | exact Bp.refl _ | apply Bp.step)⟩)
 ·(
 rw [if_neg c8] at H
 have c8b0 : decide (10 < ((rd_L8 l1 x5_1).length : Int)) = false := decide_eq_false c8
 have c8b1 : decide (10 < (rd_L8 l1 x5_1).length) = false := decide_eq_false (by omega)
 clear c8
 replace H := Dn H
 obtain ⟨t343, A90, H⟩ := H
 replace H : (if t343 = true then (Bc.l0 kj2 l0 l1 (wrap64 (x5_1 + 1))) else (some false)) = some r := H
 have A9 := Aa.mk A90
 clear A90
 by_cases c10 : t343 = true
 ·(
 subst c10
 have H1 : (Bc.l0 kj2 l0 l1 (wrap64 (x5_1 + 1))) = some r := by rw [if_pos rfl] at H; exact H
 clear H
 have H := H1
 clear H1
 have H' := Aa.mk H
 clear H
 have p341 : 0 ≤ (x5_1 : Int) := dt_
 have q341 : x5_1 < (l1.length : Int) := dt_
 obtain ⟨ad341, A341_0, c341_0, e341, hx341_0, hl341_0, hi341_0⟩ := at_L8 HR1.out x5_1 p341 q341
 cases e341
 have HR341_0 := Aa.mk hi341_0
 have HC341_0 := Aa.mk hl341_0
 clear hi341_0 hl341_0
 replace p341 := eq_true p341
 replace q341 := eq_true q341
 have p342 : 0 ≤ (x5_1 : Int) := dt_
 have q342 : x5_1 < (l1.length : Int) := dt_
 obtain ⟨ad342, A342_0, c342_0, e342, hx342_0, hl342_0, hi342_0⟩ := at_L8 HR1.out x5_1 p342 q342
 obtain rfl : ad341 = ad342 := (by injection e342)
 have HR342_0 := Aa.mk hi342_0
 have HC342_0 := Aa.mk hl342_0
 clear hi342_0 hl342_0
 replace p342 := eq_true p342
 replace q342 := eq_true q342
 have ea_ := Dp (hx341_0.symm.trans hx342_0)
 injection ea_ with ea_ en_ ec_
 subst ea_
 subst ec_
 clear en_
 go_wp2_with (first | (go_at_call 34; (with_reducible refine (Be.calls kj2 _ _ (rd_L8 l1 x5_1) true _ ?side1 ?side2 A9.out).mono ?_); (case side1 => repeat (first | exact HR342_0.out | (with_reducible refine Kd.C_alloc ?_ _) | (with_reducible refine Kd.C_drewN ?_ _) | (with_reducible refine Kd.C_drew ?_))); (case side2 => exact HC342_0.out); rintro e w' ⟨rfl, ⟨nd, rfl⟩⟩))
 go_roundg kj2
 case measure => have := HK1.out; have := HJ2.out; omega
 case rel => exact ⟨_, (by first | rfl | (simp; done) | (simp [*]; done)), H', ⟨by have := HK1.out; have := HJ2.out; omega⟩, by repeat (first | exact Bp.refl _ | apply Bp.step)⟩)
 ·(
 replace c10 := Dq c10
 subst c10
 have H1 : (some false) = some r := by rw [if_neg (show ¬ (false = true) by decide)] at H; exact H
 clear H
 have H := H1
 clear H1
 obtain rfl := Dp H
 have p341 : 0 ≤ (x5_1 : Int) := dt_
 have q341 : x5_1 < (l1.length : Int) := dt_
 obtain ⟨ad341, A341_0, c341_0, e341, hx341_0, hl341_0, hi341_0⟩ := at_L8 HR1.out x5_1 p341 q341
 cases e341
 have HR341_0 := Aa.mk hi341_0
 have HC341_0 := Aa.mk hl341_0
 clear hi341_0 hl341_0
 replace p341 := eq_true p341
 replace q341 := eq_true q341
 have p342 : 0 ≤ (x5_1 : Int) := dt_
 have q342 : x5_1 < (l1.length : Int) := dt_
 obtain ⟨ad342, A342_0, c342_0, e342, hx342_0, hl342_0, hi342_0⟩ := at_L8 HR1.out x5_1 p342 q342
 obtain rfl : ad341 = ad342 := (by injection e342)
 have HR342_0 := Aa.mk hi342_0
 have HC342_0 := Aa.mk hl342_0
 clear hi342_0 hl342_0
 replace p342 := eq_true p342
 replace q342 := eq_true q342
 have ea_ := Dp (hx341_0.symm.trans hx342_0)
 injection ea_ with ea_ en_ ec_
 subst ea_
 subst ec_
 clear en_
 go_wp2_with (first | (go_at_call 34; (with_reducible refine (Be.calls kj2 _ _ (rd_L8 l1 x5_1) false _ ?side1 ?side2 A9.out).mono ?_); (case side1 => repeat (first | exact HR342_0.out | (with_reducible refine Kd.C_alloc ?_ _) | (with_reducible refine Kd.C_drewN ?_ _) | (with_reducible refine Kd.C_drew ?_))); (case side2 => exact HC342_0.out); rintro e w' ⟨rfl, ⟨nd, rfl⟩⟩))
 go_ret
 exact ⟨by first | rfl | (simp; done) | (simp [*]; done), by repeat (first | exact Bp.refl _ | apply Bp.step)⟩)))
 ·(
 rw [if_neg c7] at H
 exact absurd H (by simp)))
 ·(
 rw [if_neg c6] at H
 exact absurd H (by simp)))
 ·(
 replace c5 := Dq c5
 subst c5
 have H1 : ((Bd.f kj2 l0).bind fun t344 => (if t344 = true then (some (decide ((l1.length : Int) ≤ 210))) else (some false))) = some r := by rw [if_neg (show ¬ (false = true) by decide)] at H; exact H
 clear H
 have H := H1
 clear H1
 replace H := Dn H
 obtain ⟨t344, A110, H⟩ := H
 replace H : (if t344 = true then (some (decide ((l1.length : Int) ≤ 210))) else (some false)) = some r := H
 have A11 := Aa.mk A110
 clear A110
 by_cases c12 : t344 = true
 ·(
 subst c12
 have H1 : (some (decide ((l1.length : Int) ≤ 210))) = some r := by rw [if_pos rfl] at H; exact H
 clear H
 have H := H1
 clear H1
 obtain rfl := Dp H
 go_wp2_with (first | ((with_reducible refine Aw (f := 9) rfl ?_); refine gl_ (some 31) rfl Try.func9 #[.slice A0 l0.length c0] ?_; (with_reducible refine (Bd.calls kj2 _ _ l0 true _ ?side1 ?side2 A11.out).mono ?_); (case side1 => repeat (first | exact HR0.out | (with_reducible refine Kd.C_alloc ?_ _) | (with_reducible refine Kd.C_drewN ?_ _) | (with_reducible refine Kd.C_drew ?_))); (case side2 => exact HC0.out); rintro e w' ⟨rfl, ⟨nd, rfl⟩⟩; refine ⟨_, rfl, ?_⟩))
 go_ret
 exact ⟨by first | rfl | (simp; done) | (simp [*]; done), by repeat (first | exact Bp.refl _ | apply Bp.step)⟩)
 ·(
 replace c12 := Dq c12
 subst c12
 have H1 : (some false) = some r := by rw [if_neg (show ¬ (false = true) by decide)] at H; exact H
 clear H
 have H := H1
 clear H1
 obtain rfl := Dp H
 go_wp2_with (first | ((with_reducible refine Aw (f := 9) rfl ?_); refine gl_ (some 31) rfl Try.func9 #[.slice A0 l0.length c0] ?_; (with_reducible refine (Bd.calls kj2 _ _ l0 false _ ?side1 ?side2 A11.out).mono ?_); (case side1 => repeat (first | exact HR0.out | (with_reducible refine Kd.C_alloc ?_ _) | (with_reducible refine Kd.C_drewN ?_ _) | (with_reducible refine Kd.C_drew ?_))); (case side2 => exact HC0.out); rintro e w' ⟨rfl, ⟨nd, rfl⟩⟩; refine ⟨_, rfl, ?_⟩))
 go_ret
 exact ⟨by first | rfl | (simp; done) | (simp [*]; done), by repeat (first | exact Bp.refl _ | apply Bp.step)⟩))))))
theorem fits_good3 (l : List S64) (x : S27) (h : fitsE l x = 0) : Good mayStep 6 x ∧ Good (typedStep l) 6 x := by
 unfold fitsE at h
 by_cases hc : mayB x = true ∧ checkE l = 0
 ·(
 rw [if_pos hc] at h
 cases hb : (ev (typedStep l) 6 x ()).1
 ·rw [hb] at h; simp at h
 ·exact ⟨⟨0, hc.1⟩, ⟨(), hb⟩⟩)
 ·(
 rw [if_neg hc] at h
 omega)
theorem small10 (x : List S24) (hl : x.length ≤ 9223372036854775806) : TotP (fun _ => True) (fun k => Be.f k x) := by
 unfold Be.f
 have out : ∀ i : Int, TotP (fun _ => True) (fun k => Be.j1 k x i false) := by(
 intro i
 refine TotP.succ (fun k => by simp only [Be.j1]; rfl) ?_
 exact TotP.ite (fun h => by cases h) (fun _ => TotP.some_ trivial))
 have key : ∀ (n i : Nat), i + n = x.length → TotP (fun _ => True) (fun k => Be.l0 k x (i : Int)) := by(
 intro n
 induction n with
 | zero =>(
 intro i hi
 refine TotP.succ (fun k => by simp only [Be.l0]; rfl) ?_
 exact TotP.ite (fun h => absurd h (by omega)) (fun _ => out _))
 | succ n ih =>(
 intro i hi
 refine TotP.succ (fun k => by simp only [Be.l0]; rfl) ?_
 refine TotP.ite (fun _ => ?_) (fun h => absurd (by omega) h)
 refine TotP.succ (fun k => by simp only [Be.j1]; rfl) ?_
 refine TotP.ite (fun _ => ?_) (fun _ => TotP.some_ trivial)
 refine TotP.ite (fun _ => ?_) (fun h => absurd (by omega) h)
 refine TotP.ite (fun _ => ?_) (fun h => absurd (by omega) h)
 refine TotP.ite (fun _ => TotP.some_ trivial) (fun _ => ?_)
 rw [wrap_in (by omega) (by omega), show (i : Int) + 1 = ((i + 1 : Nat) : Int) by omega]
 exact ih (i + 1) (by omega)))
 simpa using key x.length 0 (by omega)
def Bg.l0 : Nat → List (S64) → List (S24) → Int → Option (Bool)
 | 0, _, _, _ => none
 | k + 1, x0, x1, x5 => if x5 < (x0.length : Int) then (if 0 ≤ x5 then (if x5 < (x1.length : Int) then ((Bk.f k ((Bj x0 x5).f1) ((Bj x0 x5).f2) ((Ax x1 x5).f0) ((Ax x1 x5).f1) ((Ax x1 x5).f2)).bind fun t393 => (if t393 = true then (Bg.l0 k x0 x1 (wrap64 (x5 + 1))) else (some false))) else (none)) else (none)) else (some true)
def Bg.f (k : Nat) (l0 : List (S64)) (l1 : List (S24)) : Option (Bool) := if (l0.length : Int) = (l1.length : Int) then (Bg.l0 k l0 l1 0) else (some false)
theorem Bg.mono_l : ∀ k, (∀ y0 y1 y2, LeO (Bg.l0 k y0 y1 y2) (Bg.l0 (k + 1) y0 y1 y2))
 | 0 => fun _ _ _ r h => by simp [Bg.l0] at h
 | k + 1 => by
  have ih0 := Bg.mono_l k
  ·intro y0 y1 y2
   unfold Bg.l0
   repeat' first|(with_reducible first|exact ih0 _ _ _|exact Bk.mono _ _ _ _ _ _|exact LeO.refl _|exact LeO.none _|refine LeO.ite ?_ ?_|refine LeO.bind ?_ fun _=>?_)|exact ih0 _ _ _|exact Bk.mono _ _ _ _ _ _|exact LeO.none _|refine LeO.ite ?_ ?_|refine LeO.bind ?_ fun _=>?_
theorem Bg.mono : ∀ a0 a1 k, LeO (Bg.f k a0 a1) (Bg.f (k + 1) a0 a1) := by
 intro a0 a1 k
 have ih0 := Bg.mono_l k
 unfold Bg.f
 repeat' first|(with_reducible first|exact ih0 _ _ _|exact Bk.mono _ _ _ _ _ _|exact LeO.refl _|exact LeO.none _|refine LeO.ite ?_ ?_|refine LeO.bind ?_ fun _=>?_)|exact ih0 _ _ _|exact Bk.mono _ _ _ _ _ _|exact LeO.none _|refine LeO.ite ?_ ?_|refine LeO.bind ?_ fun _=>?_
def Bg.T6 : Bool × List (List Nat × List Nat) := (true, [([], []), ([], []), ([0, 1], [0, 1]), ([2], [2]), ([3], [3]), ([], []), ([], []), ([5, 6], [5, 6]), ([7], [7]), ([8], [8]), ([], []), ([], []), ([10, 11], [10, 11]), ([12], [12]), ([4, 9, 13], [4, 9, 13]), ([14], [14])])
def Bg.B6 : List Nat := [0, 0, 3, 7, 15, 0, 0, 96, 224, 480, 0, 0, 3072, 7168, 16383, 32767]
theorem Bg.tab6 : rtab .any (opsOf Try.f42 6) = Bg.T6 := by kernel_rfl
theorem Bg.bits6 : waitsOk Bg.T6.2 Bg.B6 = true := by kernel_rfl
theorem Bg.calls (k : Nat) (A0 : Option Addr) (c0 : Nat) (l0 : List (S64)) (A1 : Option Addr) (c1 : Nat) (l1 : List (S24)) (r : Bool) (w : World) (hr0 : Kd.C k64 w A0 l0.length l0) (hc0 : l0.length ≤ c0) (hr1 : Kd.C k24 w A1 l1.length l1) (hc1 : l1.length ≤ c1) (h : Bg.f k l0 l1 = some r) :
  Calls Try.prog 42 #[.slice A0 l0.length c0, .slice A1 l1.length c1] w fun e w' => e = .returned (.bool r) ∧ Below w.heap.size w w' := by
 have hu24 := Try.underlying24
 have HR0 := Aa.mk hr0
 have HC0 := Aa.mk hc0
 clear hr0 hc0
 have HR1 := Aa.mk hr1
 have HC1 := Aa.mk hc1
 clear hr1 hc1
 have HB := Aa.mk (Below.refl w.heap.size w)
 have H : (if (l0.length : Int) = (l1.length : Int) then (Bg.l0 k l0 l1 0) else (some false)) = some r := h
 clear h
 by_cases c3 : (l0.length : Int) = (l1.length : Int)
 ·(
 rw [if_pos c3] at H
 have c3b0 : ((l0.length : Int) == (l1.length : Int)) = true := Dl c3
 have c3b1 : ((l0.length : Int) != (l1.length : Int)) = false := Dk c3
 have c3b2 : (l0.length == l1.length) = true := by first | simpa using c3 | (simp at c3 ⊢; omega)
 clear c3
 have H' := Aa.mk H
 clear H
 go_enter Try.func42, Try.ntmps42
 go_wp2
 go_loopg [5] k (fun kq v5 w' => ∃ (x5_1 : Int), v5 = .int .i64 x5_1 ∧ Aa (Bg.l0 kq l0 l1 x5_1 = some r) ∧ Aa (kq ≤ k) ∧ Aa (Below w.heap.size w w'))
 case atStart => exact ⟨_, (by first | rfl | (simp; done) | (simp [*]; done)), H', ⟨Nat.le_refl _⟩, ⟨by repeat (first | (with_reducible first | exact HB.out | apply Ak | apply Ah | apply Aj) | exact HB.out)⟩⟩
 case round =>(
 clear H'
 try clear c1
 try clear c3
 try clear c3b0
 try clear c3b1
 try clear c3b2
 obtain ⟨x5_1, rfl, HA, HK1, HB⟩ := hrel
 cases gk with
 | zero => exact absurd HA.out (by simp [Bg.l0])
 | succ k1 =>(
 have H := HA.out
 clear HA
 simp only [Bg.l0] at H
 by_cases c4 : x5_1 < (l0.length : Int)
 ·(
 rw [if_pos c4] at H
 have c4b0 : decide (x5_1 < (l0.length : Int)) = true := decide_eq_true c4
 clear c4
 by_cases c5 : 0 ≤ x5_1
 ·(
 rw [if_pos c5] at H
 have c5b0 : decide (0 ≤ x5_1) = true := decide_eq_true c5
 clear c5
 by_cases c6 : x5_1 < (l1.length : Int)
 ·(
 rw [if_pos c6] at H
 have c6b0 : decide (x5_1 < (l1.length : Int)) = true := decide_eq_true c6
 clear c6
 replace H := Dn H
 obtain ⟨t393, A70, H⟩ := H
 replace H : (if t393 = true then (Bg.l0 k1 l0 l1 (wrap64 (x5_1 + 1))) else (some false)) = some r := H
 have A7 := Aa.mk A70
 clear A70
 by_cases c8 : t393 = true
 ·(
 subst c8
 have H1 : (Bg.l0 k1 l0 l1 (wrap64 (x5_1 + 1))) = some r := by rw [if_pos rfl] at H; exact H
 clear H
 have H := H1
 clear H1
 have H' := Aa.mk H
 clear H
 try go_wp2
 replace HB := Aa.mk (Aj HB.out)
 have p390 : 0 ≤ (x5_1 : Int) := dt_
 have q390 : x5_1 < (l0.length : Int) := dt_
 obtain ⟨ad390, e390, hx390_0, hx390_1, hx390_2⟩ := at_T64 HR0.out x5_1 p390 q390
 have hw390_2 := hx390_2
 have hw390_1 := hx390_1
 have hw390_0 := hx390_0
 cases e390
 replace hx390_0 := hc_ HB hx390_0
 replace hx390_1 := hc_ HB hx390_1
 replace hx390_2 := hc_ HB hx390_2
 replace p390 := eq_true p390
 replace q390 := eq_true q390
 have p391 : 0 ≤ (x5_1 : Int) := dt_
 have q391 : x5_1 < (l0.length : Int) := dt_
 obtain ⟨ad391, e391, hx391_0, hx391_1, hx391_2⟩ := at_T64 HR0.out x5_1 p391 q391
 have hw391_2 := hx391_2
 have hw391_1 := hx391_1
 have hw391_0 := hx391_0
 obtain rfl : ad390 = ad391 := (by injection e391)
 replace hx391_0 := hc_ HB hx391_0
 replace hx391_1 := hc_ HB hx391_1
 replace hx391_2 := hc_ HB hx391_2
 replace p391 := eq_true p391
 replace q391 := eq_true q391
 have p392 : 0 ≤ (x5_1 : Int) := dt_
 have q392 : x5_1 < (l1.length : Int) := dt_
 obtain ⟨ad392, e392, hx392_0, hx392_1, hx392_2⟩ := at_T24 HR1.out x5_1 p392 q392
 have hw392_2 := hx392_2
 have hw392_1 := hx392_1
 have hw392_0 := hx392_0
 cases e392
 replace hx392_0 := hc_ HB hx392_0
 replace hx392_1 := hc_ HB hx392_1
 replace hx392_2 := hc_ HB hx392_2
 replace p392 := eq_true p392
 replace q392 := eq_true q392
 refine start_ (n := 16) (S := fun w' => w'.cell? (ad390.add ((x5_1).toNat * 3)) = some (.string ((Bj l0 x5_1).f0)) ∧ w'.cell? ⟨(ad390.add ((x5_1).toNat * 3)).block, (ad390.add ((x5_1).toNat * 3)).off + 1, none⟩ = some (.int .i64 ((Bj l0 x5_1).f1)) ∧ w'.cell? ⟨(ad390.add ((x5_1).toNat * 3)).block, (ad390.add ((x5_1).toNat * 3)).off + 2, none⟩ = some (.bool ((Bj l0 x5_1).f2)) ∧ w'.cell? (ad390.add ((x5_1).toNat * 3)) = some (.string ((Bj l0 x5_1).f0)) ∧ w'.cell? ⟨(ad390.add ((x5_1).toNat * 3)).block, (ad390.add ((x5_1).toNat * 3)).off + 1, none⟩ = some (.int .i64 ((Bj l0 x5_1).f1)) ∧ w'.cell? ⟨(ad390.add ((x5_1).toNat * 3)).block, (ad390.add ((x5_1).toNat * 3)).off + 2, none⟩ = some (.bool ((Bj l0 x5_1).f2)) ∧ w'.cell? (ad392.add ((x5_1).toNat * 3)) = some (.bool ((Ax l1 x5_1).f0)) ∧ w'.cell? ⟨(ad392.add ((x5_1).toNat * 3)).block, (ad392.add ((x5_1).toNat * 3)).off + 1, none⟩ = some (.int .i64 ((Ax l1 x5_1).f1)) ∧ w'.cell? ⟨(ad392.add ((x5_1).toNat * 3)).block, (ad392.add ((x5_1).toNat * 3)).off + 2, none⟩ = some (.string ((Ax l1 x5_1).f2))) (ds := []) #[false, false, false, false, false, false, false, false, false, false, false, false, false, false, false, false] (by kernel_rfl) rfl rfl ⟨((HB.out.cell (World.block_lt_of_cell? w _ hw390_0)).trans hw390_0), ((HB.out.cell (World.block_lt_of_cell? w _ hw390_1)).trans hw390_1), ((HB.out.cell (World.block_lt_of_cell? w _ hw390_2)).trans hw390_2), ((HB.out.cell (World.block_lt_of_cell? w _ hw391_0)).trans hw391_0), ((HB.out.cell (World.block_lt_of_cell? w _ hw391_1)).trans hw391_1), ((HB.out.cell (World.block_lt_of_cell? w _ hw391_2)).trans hw391_2), ((HB.out.cell (World.block_lt_of_cell? w _ hw392_0)).trans hw392_0), ((HB.out.cell (World.block_lt_of_cell? w _ hw392_1)).trans hw392_1), ((HB.out.cell (World.block_lt_of_cell? w _ hw392_2)).trans hw392_2)⟩ (fun hHeld => ?_); refine with_tabW Bg.tab6 Bg.bits6 (fun HT_ HW_ => ?_)
 generalize wr.drew = w9 at HB hx390_0 hx390_1 hx390_2 hx391_0 hx391_1 hx391_2 hx392_0 hx392_1 hx392_2 hHeld ⊢
 refine pu_ 0 (some 17) (bl_ 16 1) ?_
 refine pu_ 1 (some 18) (bl_ 16 3) ?_
 refine pu_ 2 (some 19) (bl_ 16 7) ?_
 refine pu_ 3 (some 20) (bl_ 16 15) ?_
 refine pu_ 5 (some 22) (bl_ 16 47) ?_
 refine pu_ 6 (some 23) (bl_ 16 111) ?_
 refine pu_ 7 (some 24) (bl_ 16 239) ?_
 refine pu_ 8 (some 25) (bl_ 16 495) ?_
 refine pu_ 10 (some 27) (bl_ 16 1519) ?_
 refine pu_ 11 (some 28) (bl_ 16 3567) ?_
 refine pu_ 12 (some 29) (bl_ 16 7663) ?_
 refine ta_ 4 (some 21) (bl_ 16 7679) hHeld ?_
 refine ta_ 9 (some 26) (bl_ 16 8191) hHeld ?_
 refine ta_ 13 (some 30) (bl_ 16 16383) hHeld ?_
 refine one_ (i := 14) (N := some 31) #[true, true, true, true, true, true, true, true, true, true, true, true, true, true, true, false] rfl rfl (one_of HT_.out (by kernel_rfl)) (by decide) (fun K hK => ?_)
 refine gs_ Try.func57 #[.int .i64 ((Bj l0 x5_1).f1), .bool ((Bj l0 x5_1).f2), .agg #[.bool ((Ax l1 x5_1).f0), .int .i64 ((Ax l1 x5_1).f1), .string ((Ax l1 x5_1).f2)]] ?_
 with_reducible refine (Bk.calls k1 ((Bj l0 x5_1).f1) ((Bj l0 x5_1).f2) ((Ax l1 x5_1).f0) ((Ax l1 x5_1).f1) ((Ax l1 x5_1).f2) true _ A7.out).mono ?_
 rintro e w10 ⟨rfl, hb⟩
 refine ⟨_, rfl, ?_⟩
 replace HB := bs_ HB hb
 (try clear hb)
 refine hK.out _ _ ⟨((HB.out.cell (World.block_lt_of_cell? w _ hw390_0)).trans hw390_0), ((HB.out.cell (World.block_lt_of_cell? w _ hw390_1)).trans hw390_1), ((HB.out.cell (World.block_lt_of_cell? w _ hw390_2)).trans hw390_2), ((HB.out.cell (World.block_lt_of_cell? w _ hw391_0)).trans hw391_0), ((HB.out.cell (World.block_lt_of_cell? w _ hw391_1)).trans hw391_1), ((HB.out.cell (World.block_lt_of_cell? w _ hw391_2)).trans hw391_2), ((HB.out.cell (World.block_lt_of_cell? w _ hw392_0)).trans hw392_0), ((HB.out.cell (World.block_lt_of_cell? w _ hw392_1)).trans hw392_1), ((HB.out.cell (World.block_lt_of_cell? w _ hw392_2)).trans hw392_2)⟩ (fun hHeld => ?_)
 clear hK K
 refine norm_ (a' := ?_) ?_ ?_
 rotate_left
 ·(
 show Act.put _ (some 31) _ = _
 simp only [Act.put, List.setIfInBounds_toArray, List.set_cons_zero, List.set_cons_succ, i64_w, i32_w]
 rfl)
 refine pu_ 15 (some 32) (bl_ 16 65535) ?_
 refine done_ (done_of HT_.out (by kernel_rfl)) ?_
 try go_wp2
 go_roundg k1
 case measure => have := HK1.out; omega
 case rel => exact ⟨_, (by first | rfl | (simp; done) | (simp [*]; done)), H', ⟨by have := HK1.out; omega⟩, ⟨by repeat (first | (with_reducible first | exact HB.out | apply Ak | apply Ah | apply Aj) | exact HB.out)⟩⟩)
 ·(
 replace c8 := Dq c8
 subst c8
 have H1 : (some false) = some r := by rw [if_neg (show ¬ (false = true) by decide)] at H; exact H
 clear H
 have H := H1
 clear H1
 obtain rfl := Dp H
 try go_wp2
 replace HB := Aa.mk (Aj HB.out)
 have p390 : 0 ≤ (x5_1 : Int) := dt_
 have q390 : x5_1 < (l0.length : Int) := dt_
 obtain ⟨ad390, e390, hx390_0, hx390_1, hx390_2⟩ := at_T64 HR0.out x5_1 p390 q390
 have hw390_2 := hx390_2
 have hw390_1 := hx390_1
 have hw390_0 := hx390_0
 cases e390
 replace hx390_0 := hc_ HB hx390_0
 replace hx390_1 := hc_ HB hx390_1
 replace hx390_2 := hc_ HB hx390_2
 replace p390 := eq_true p390
 replace q390 := eq_true q390
 have p391 : 0 ≤ (x5_1 : Int) := dt_
 have q391 : x5_1 < (l0.length : Int) := dt_
 obtain ⟨ad391, e391, hx391_0, hx391_1, hx391_2⟩ := at_T64 HR0.out x5_1 p391 q391
 have hw391_2 := hx391_2
 have hw391_1 := hx391_1
 have hw391_0 := hx391_0
 obtain rfl : ad390 = ad391 := (by injection e391)
 replace hx391_0 := hc_ HB hx391_0
 replace hx391_1 := hc_ HB hx391_1
 replace hx391_2 := hc_ HB hx391_2
 replace p391 := eq_true p391
 replace q391 := eq_true q391
 have p392 : 0 ≤ (x5_1 : Int) := dt_
 have q392 : x5_1 < (l1.length : Int) := dt_
 obtain ⟨ad392, e392, hx392_0, hx392_1, hx392_2⟩ := at_T24 HR1.out x5_1 p392 q392
 have hw392_2 := hx392_2
 have hw392_1 := hx392_1
 have hw392_0 := hx392_0
 cases e392
 replace hx392_0 := hc_ HB hx392_0
 replace hx392_1 := hc_ HB hx392_1
 replace hx392_2 := hc_ HB hx392_2
 replace p392 := eq_true p392
 replace q392 := eq_true q392
 refine start_ (n := 16) (S := fun w' => w'.cell? (ad390.add ((x5_1).toNat * 3)) = some (.string ((Bj l0 x5_1).f0)) ∧ w'.cell? ⟨(ad390.add ((x5_1).toNat * 3)).block, (ad390.add ((x5_1).toNat * 3)).off + 1, none⟩ = some (.int .i64 ((Bj l0 x5_1).f1)) ∧ w'.cell? ⟨(ad390.add ((x5_1).toNat * 3)).block, (ad390.add ((x5_1).toNat * 3)).off + 2, none⟩ = some (.bool ((Bj l0 x5_1).f2)) ∧ w'.cell? (ad390.add ((x5_1).toNat * 3)) = some (.string ((Bj l0 x5_1).f0)) ∧ w'.cell? ⟨(ad390.add ((x5_1).toNat * 3)).block, (ad390.add ((x5_1).toNat * 3)).off + 1, none⟩ = some (.int .i64 ((Bj l0 x5_1).f1)) ∧ w'.cell? ⟨(ad390.add ((x5_1).toNat * 3)).block, (ad390.add ((x5_1).toNat * 3)).off + 2, none⟩ = some (.bool ((Bj l0 x5_1).f2)) ∧ w'.cell? (ad392.add ((x5_1).toNat * 3)) = some (.bool ((Ax l1 x5_1).f0)) ∧ w'.cell? ⟨(ad392.add ((x5_1).toNat * 3)).block, (ad392.add ((x5_1).toNat * 3)).off + 1, none⟩ = some (.int .i64 ((Ax l1 x5_1).f1)) ∧ w'.cell? ⟨(ad392.add ((x5_1).toNat * 3)).block, (ad392.add ((x5_1).toNat * 3)).off + 2, none⟩ = some (.string ((Ax l1 x5_1).f2))) (ds := []) #[false, false, false, false, false, false, false, false, false, false, false, false, false, false, false, false] (by kernel_rfl) rfl rfl ⟨((HB.out.cell (World.block_lt_of_cell? w _ hw390_0)).trans hw390_0), ((HB.out.cell (World.block_lt_of_cell? w _ hw390_1)).trans hw390_1), ((HB.out.cell (World.block_lt_of_cell? w _ hw390_2)).trans hw390_2), ((HB.out.cell (World.block_lt_of_cell? w _ hw391_0)).trans hw391_0), ((HB.out.cell (World.block_lt_of_cell? w _ hw391_1)).trans hw391_1), ((HB.out.cell (World.block_lt_of_cell? w _ hw391_2)).trans hw391_2), ((HB.out.cell (World.block_lt_of_cell? w _ hw392_0)).trans hw392_0), ((HB.out.cell (World.block_lt_of_cell? w _ hw392_1)).trans hw392_1), ((HB.out.cell (World.block_lt_of_cell? w _ hw392_2)).trans hw392_2)⟩ (fun hHeld => ?_); refine with_tabW Bg.tab6 Bg.bits6 (fun HT_ HW_ => ?_)
 generalize wr.drew = w11 at HB hx390_0 hx390_1 hx390_2 hx391_0 hx391_1 hx391_2 hx392_0 hx392_1 hx392_2 hHeld ⊢
 refine pu_ 0 (some 17) (bl_ 16 1) ?_
 refine pu_ 1 (some 18) (bl_ 16 3) ?_
 refine pu_ 2 (some 19) (bl_ 16 7) ?_
 refine pu_ 3 (some 20) (bl_ 16 15) ?_
 refine pu_ 5 (some 22) (bl_ 16 47) ?_
 refine pu_ 6 (some 23) (bl_ 16 111) ?_
 refine pu_ 7 (some 24) (bl_ 16 239) ?_
 refine pu_ 8 (some 25) (bl_ 16 495) ?_
 refine pu_ 10 (some 27) (bl_ 16 1519) ?_
 refine pu_ 11 (some 28) (bl_ 16 3567) ?_
 refine pu_ 12 (some 29) (bl_ 16 7663) ?_
 refine ta_ 4 (some 21) (bl_ 16 7679) hHeld ?_
 refine ta_ 9 (some 26) (bl_ 16 8191) hHeld ?_
 refine ta_ 13 (some 30) (bl_ 16 16383) hHeld ?_
 refine one_ (i := 14) (N := some 31) #[true, true, true, true, true, true, true, true, true, true, true, true, true, true, true, false] rfl rfl (one_of HT_.out (by kernel_rfl)) (by decide) (fun K hK => ?_)
 refine gs_ Try.func57 #[.int .i64 ((Bj l0 x5_1).f1), .bool ((Bj l0 x5_1).f2), .agg #[.bool ((Ax l1 x5_1).f0), .int .i64 ((Ax l1 x5_1).f1), .string ((Ax l1 x5_1).f2)]] ?_
 with_reducible refine (Bk.calls k1 ((Bj l0 x5_1).f1) ((Bj l0 x5_1).f2) ((Ax l1 x5_1).f0) ((Ax l1 x5_1).f1) ((Ax l1 x5_1).f2) false _ A7.out).mono ?_
 rintro e w12 ⟨rfl, hb⟩
 refine ⟨_, rfl, ?_⟩
 replace HB := bs_ HB hb
 (try clear hb)
 refine hK.out _ _ ⟨((HB.out.cell (World.block_lt_of_cell? w _ hw390_0)).trans hw390_0), ((HB.out.cell (World.block_lt_of_cell? w _ hw390_1)).trans hw390_1), ((HB.out.cell (World.block_lt_of_cell? w _ hw390_2)).trans hw390_2), ((HB.out.cell (World.block_lt_of_cell? w _ hw391_0)).trans hw391_0), ((HB.out.cell (World.block_lt_of_cell? w _ hw391_1)).trans hw391_1), ((HB.out.cell (World.block_lt_of_cell? w _ hw391_2)).trans hw391_2), ((HB.out.cell (World.block_lt_of_cell? w _ hw392_0)).trans hw392_0), ((HB.out.cell (World.block_lt_of_cell? w _ hw392_1)).trans hw392_1), ((HB.out.cell (World.block_lt_of_cell? w _ hw392_2)).trans hw392_2)⟩ (fun hHeld => ?_)
 clear hK K
 refine norm_ (a' := ?_) ?_ ?_
 rotate_left
 ·(
 show Act.put _ (some 31) _ = _
 simp only [Act.put, List.setIfInBounds_toArray, List.set_cons_zero, List.set_cons_succ, i64_w, i32_w]
 rfl)
 refine pu_ 15 (some 32) (bl_ 16 65535) ?_
 refine done_ (done_of HT_.out (by kernel_rfl)) ?_
 try go_wp2
 go_ret
 exact en_ HB))
 ·(
 rw [if_neg c6] at H
 exact absurd H (by simp)))
 ·(
 rw [if_neg c5] at H
 exact absurd H (by simp)))
 ·(
 rw [if_neg c4] at H
 have c4b0 : decide (x5_1 < (l0.length : Int)) = false := decide_eq_false c4
 clear c4
 obtain rfl := Dp H
 go_wp2
 go_ret
 exact en_ HB))))
 ·(
 rw [if_neg c3] at H
 have c3b0 : ((l0.length : Int) == (l1.length : Int)) = false := Dj c3
 have c3b1 : ((l0.length : Int) != (l1.length : Int)) = true := Dm c3
 have c3b2 : (l0.length == l1.length) = false := by first | simpa using c3 | (simp at c3 ⊢; omega)
 obtain rfl := Dp H
 go_enter Try.func42, Try.ntmps42
 go_wp2
 go_ret
 exact en_ HB)
def Cc.f (k : Nat) (l0 : List (S64)) (a1_0 : Int) (a1_1 : ByteArray) (a1_2 : Int) (a1_3 : Bool) (a1_4 : Int) (a1_5 : ByteArray) (a1_6 : Int) (a1_7 : ByteArray) (l1_8 : List (S27)) (l2 : List (S24)) : Option (Int × Int) := (Bf.f k l0 a1_0 a1_1 a1_2 a1_3 a1_4 a1_5 a1_6 a1_7 l1_8).bind fun t395 => (if t395 = 0 then ((Bg.f k l0 l2).bind fun t396 => (if t396 = true then ((Ad.f k l0 a1_0 a1_1 a1_2 a1_3 a1_4 a1_5 a1_6 a1_7 l1_8 l2).bind fun t397 => (some (t397, 0))) else (some (0, 10)))) else (some (0, t395)))
theorem Cc.mono : ∀ a0 a1 a2 a3 a4 a5 a6 a7 a8 a9 a10 k, LeO (Cc.f k a0 a1 a2 a3 a4 a5 a6 a7 a8 a9 a10) (Cc.f (k + 1) a0 a1 a2 a3 a4 a5 a6 a7 a8 a9 a10) := by
 intro a0 a1 a2 a3 a4 a5 a6 a7 a8 a9 a10 k
 unfold Cc.f
 repeat' first|(with_reducible first|exact Bg.mono _ _ _|exact Bf.mono _ _ _ _ _ _ _ _ _ _ _|exact Ad.mono _ _ _ _ _ _ _ _ _ _ _ _|exact LeO.refl _|exact LeO.none _|refine LeO.ite ?_ ?_|refine LeO.bind ?_ fun _=>?_)|exact Bg.mono _ _ _|exact Bf.mono _ _ _ _ _ _ _ _ _ _ _|exact Ad.mono _ _ _ _ _ _ _ _ _ _ _ _|exact LeO.none _|refine LeO.ite ?_ ?_|refine LeO.bind ?_ fun _=>?_
theorem Cc.calls (k : Nat) (A0 : Option Addr) (c0 : Nat) (l0 : List (S64)) (a1_0 : Int) (a1_1 : ByteArray) (a1_2 : Int) (a1_3 : Bool) (a1_4 : Int) (a1_5 : ByteArray) (a1_6 : Int) (a1_7 : ByteArray) (A1_8 : Option Addr) (c1_8 : Nat) (l1_8 : List (S27)) (A2 : Option Addr) (c2 : Nat) (l2 : List (S24)) (r1 : Int) (r2 : Int) (w : World) (hr0 : Kd.C k64 w A0 l0.length l0) (hc0 : l0.length ≤ c0) (hr1_8 : Kd.C k27 w A1_8 l1_8.length l1_8) (hc1_8 : l1_8.length ≤ c1_8) (hr2 : Kd.C k24 w A2 l2.length l2) (hc2 : l2.length ≤ c2) (h : Cc.f k l0 a1_0 a1_1 a1_2 a1_3 a1_4 a1_5 a1_6 a1_7 l1_8 l2 = some (r1, r2)) :
  Calls Try.prog 26 #[.slice A0 l0.length c0, .agg #[.int .i64 a1_0, .string a1_1, .int .i64 a1_2, .bool a1_3, .int .i64 a1_4, .string a1_5, .int .i64 a1_6, .string a1_7, .slice A1_8 l1_8.length c1_8], .slice A2 l2.length c2] w fun e w' => e = .returned (.tuple #[.int .i64 r1, .int .i64 r2]) ∧ Below w.heap.size w w' := by
 have hu27 := Try.underlying27
 have HR0 := Aa.mk hr0
 have HC0 := Aa.mk hc0
 clear hr0 hc0
 have HR1_8 := Aa.mk hr1_8
 have HC1_8 := Aa.mk hc1_8
 clear hr1_8 hc1_8
 have HR2 := Aa.mk hr2
 have HC2 := Aa.mk hc2
 clear hr2 hc2
 have HB := Aa.mk (Below.refl w.heap.size w)
 have H : ((Bf.f k l0 a1_0 a1_1 a1_2 a1_3 a1_4 a1_5 a1_6 a1_7 l1_8).bind fun t395 => (if t395 = 0 then ((Bg.f k l0 l2).bind fun t396 => (if t396 = true then ((Ad.f k l0 a1_0 a1_1 a1_2 a1_3 a1_4 a1_5 a1_6 a1_7 l1_8 l2).bind fun t397 => (some (t397, 0))) else (some (0, 10)))) else (some (0, t395)))) = some (r1, r2) := h
 clear h
 replace H := Dn H
 obtain ⟨t395, A40, H⟩ := H
 replace H : (if t395 = 0 then ((Bg.f k l0 l2).bind fun t396 => (if t396 = true then ((Ad.f k l0 a1_0 a1_1 a1_2 a1_3 a1_4 a1_5 a1_6 a1_7 l1_8 l2).bind fun t397 => (some (t397, 0))) else (some (0, 10)))) else (some (0, t395))) = some (r1, r2) := H
 have A4 := Aa.mk A40
 clear A40
 by_cases c5 : t395 = 0
 ·(
 rw [if_pos c5] at H
 have c5b0 : (t395 == 0) = true := Dl c5
 have c5b1 : (t395 != 0) = false := Dk c5
 clear c5
 replace H := Dn H
 obtain ⟨t396, A60, H⟩ := H
 replace H : (if t396 = true then ((Ad.f k l0 a1_0 a1_1 a1_2 a1_3 a1_4 a1_5 a1_6 a1_7 l1_8 l2).bind fun t397 => (some (t397, 0))) else (some (0, 10))) = some (r1, r2) := H
 have A6 := Aa.mk A60
 clear A60
 by_cases c7 : t396 = true
 ·(
 subst c7
 have H1 : ((Ad.f k l0 a1_0 a1_1 a1_2 a1_3 a1_4 a1_5 a1_6 a1_7 l1_8 l2).bind fun t397 => (some (t397, 0))) = some (r1, r2) := by rw [if_pos rfl] at H; exact H
 clear H
 have H := H1
 clear H1
 replace H := Dn H
 obtain ⟨t397, A80, H⟩ := H
 replace H : (some (t397, 0)) = some (r1, r2) := H
 have A8 := Aa.mk A80
 clear A80
 simp only [Option.some.injEq, Prod.mk.injEq] at H
 obtain ⟨rfl, rfl⟩ := H
 go_enter Try.func26, Try.ntmps26
 go_wp2_with (first | (refine bx_ (N := 4) (cs := #[.int .i64 a1_0, .string a1_1, .int .i64 a1_2, .bool a1_3, .int .i64 a1_4, .string a1_5, .int .i64 a1_6, .string a1_7, .slice A1_8 l1_8.length c1_8]) (t := 27) ?_; intro gb394 hg w9 hbox hb; have BK394 := Aa.mk (hbox); have GW394 := ge_ HB hg; have GE394 := ge_ HB hg; replace HB := bs_ HB hb; clear hb hbox hg; obtain ⟨C10_0, C10_1, C10_2, C10_3, C10_4, C10_5, C10_6, C10_7, C10_8⟩ := zc9_ BK394.out; obtain ⟨F10_0, F10_1, F10_2, F10_3, F10_4, F10_5, F10_6, F10_7, F10_8⟩ := zf9_ BK394.out) | ((with_reducible refine Aw (f := 30) rfl ?_); refine gl_ (some 11) rfl Try.func30 #[.slice A0 l0.length c0, .agg #[.int .i64 a1_0, .string a1_1, .int .i64 a1_2, .bool a1_3, .int .i64 a1_4, .string a1_5, .int .i64 a1_6, .string a1_7, .slice A1_8 l1_8.length c1_8]] ?_; (with_reducible refine (Bf.calls k _ _ l0 a1_0 a1_1 a1_2 a1_3 a1_4 a1_5 a1_6 a1_7 _ _ l1_8 t395 _ ?side1 ?side2 ?side3 ?side4 A4.out).mono ?_); (case side1 => repeat (first | exact (Kd.C_below HR0.out HB.out) | (with_reducible refine Kd.C_alloc ?_ _) | (with_reducible refine Kd.C_drewN ?_ _) | (with_reducible refine Kd.C_drew ?_))); (case side2 => exact HC0.out); (case side3 => repeat (first | exact (Kd.C_below HR1_8.out HB.out) | (with_reducible refine Kd.C_alloc ?_ _) | (with_reducible refine Kd.C_drewN ?_ _) | (with_reducible refine Kd.C_drew ?_))); (case side4 => exact HC1_8.out); rintro e w11 ⟨rfl, hb⟩; refine ⟨_, rfl, ?_⟩;  replace BK394 := bk_ BK394 hb; replace HB := bs_ HB hb; (try clear hb)) | ((with_reducible refine Aw (f := 42) rfl ?_); refine gl_ (some 17) rfl Try.func42 #[.slice A0 l0.length c0, .slice A2 l2.length c2] ?_; (with_reducible refine (Bg.calls k _ _ l0 _ _ l2 true _ ?side1 ?side2 ?side3 ?side4 A6.out).mono ?_); (case side1 => repeat (first | exact (Kd.C_below HR0.out HB.out) | (with_reducible refine Kd.C_alloc ?_ _) | (with_reducible refine Kd.C_drewN ?_ _) | (with_reducible refine Kd.C_drew ?_))); (case side2 => exact HC0.out); (case side3 => repeat (first | exact (Kd.C_below HR2.out HB.out) | (with_reducible refine Kd.C_alloc ?_ _) | (with_reducible refine Kd.C_drewN ?_ _) | (with_reducible refine Kd.C_drew ?_))); (case side4 => exact HC2.out); rintro e w12 ⟨rfl, hb⟩; refine ⟨_, rfl, ?_⟩;  replace BK394 := bk_ BK394 hb; replace HB := bs_ HB hb; (try clear hb); obtain ⟨C13_0, C13_1, C13_2, C13_3, C13_4, C13_5, C13_6, C13_7, C13_8⟩ := zc9_ BK394.out; obtain ⟨F13_0, F13_1, F13_2, F13_3, F13_4, F13_5, F13_6, F13_7, F13_8⟩ := zf9_ BK394.out) | ((with_reducible refine Aw (f := 20) rfl ?_); refine gl_ (some 22) rfl Try.func20 #[.slice A0 l0.length c0, .agg #[.int .i64 a1_0, .string a1_1, .int .i64 a1_2, .bool a1_3, .int .i64 a1_4, .string a1_5, .int .i64 a1_6, .string a1_7, .slice A1_8 l1_8.length c1_8], .slice A2 l2.length c2] ?_; (with_reducible refine (Ad.calls k _ _ l0 a1_0 a1_1 a1_2 a1_3 a1_4 a1_5 a1_6 a1_7 _ _ l1_8 _ _ l2 t397 _ ?side1 ?side2 ?side3 ?side4 ?side5 ?side6 A8.out).mono ?_); (case side1 => repeat (first | exact (Kd.C_below HR0.out HB.out) | (with_reducible refine Kd.C_alloc ?_ _) | (with_reducible refine Kd.C_drewN ?_ _) | (with_reducible refine Kd.C_drew ?_))); (case side2 => exact HC0.out); (case side3 => repeat (first | exact (Kd.C_below HR1_8.out HB.out) | (with_reducible refine Kd.C_alloc ?_ _) | (with_reducible refine Kd.C_drewN ?_ _) | (with_reducible refine Kd.C_drew ?_))); (case side4 => exact HC1_8.out); (case side5 => repeat (first | exact (Kd.C_below HR2.out HB.out) | (with_reducible refine Kd.C_alloc ?_ _) | (with_reducible refine Kd.C_drewN ?_ _) | (with_reducible refine Kd.C_drew ?_))); (case side6 => exact HC2.out); rintro e w14 ⟨rfl, hb⟩; refine ⟨_, rfl, ?_⟩;  replace BK394 := bk_ BK394 hb; replace HB := bs_ HB hb; (try clear hb)))
 go_ret2
 exact en_ HB)
 ·(
 replace c7 := Dq c7
 subst c7
 have H1 : (some (0, 10)) = some (r1, r2) := by rw [if_neg (show ¬ (false = true) by decide)] at H; exact H
 clear H
 have H := H1
 clear H1
 simp only [Option.some.injEq, Prod.mk.injEq] at H
 obtain ⟨rfl, rfl⟩ := H
 go_enter Try.func26, Try.ntmps26
 go_wp2_with (first | (refine bx_ (N := 4) (cs := #[.int .i64 a1_0, .string a1_1, .int .i64 a1_2, .bool a1_3, .int .i64 a1_4, .string a1_5, .int .i64 a1_6, .string a1_7, .slice A1_8 l1_8.length c1_8]) (t := 27) ?_; intro gb394 hg w15 hbox hb; have BK394 := Aa.mk (hbox); have GW394 := ge_ HB hg; have GE394 := ge_ HB hg; replace HB := bs_ HB hb; clear hb hbox hg; obtain ⟨C16_0, C16_1, C16_2, C16_3, C16_4, C16_5, C16_6, C16_7, C16_8⟩ := zc9_ BK394.out; obtain ⟨F16_0, F16_1, F16_2, F16_3, F16_4, F16_5, F16_6, F16_7, F16_8⟩ := zf9_ BK394.out) | ((with_reducible refine Aw (f := 30) rfl ?_); refine gl_ (some 11) rfl Try.func30 #[.slice A0 l0.length c0, .agg #[.int .i64 a1_0, .string a1_1, .int .i64 a1_2, .bool a1_3, .int .i64 a1_4, .string a1_5, .int .i64 a1_6, .string a1_7, .slice A1_8 l1_8.length c1_8]] ?_; (with_reducible refine (Bf.calls k _ _ l0 a1_0 a1_1 a1_2 a1_3 a1_4 a1_5 a1_6 a1_7 _ _ l1_8 t395 _ ?side1 ?side2 ?side3 ?side4 A4.out).mono ?_); (case side1 => repeat (first | exact (Kd.C_below HR0.out HB.out) | (with_reducible refine Kd.C_alloc ?_ _) | (with_reducible refine Kd.C_drewN ?_ _) | (with_reducible refine Kd.C_drew ?_))); (case side2 => exact HC0.out); (case side3 => repeat (first | exact (Kd.C_below HR1_8.out HB.out) | (with_reducible refine Kd.C_alloc ?_ _) | (with_reducible refine Kd.C_drewN ?_ _) | (with_reducible refine Kd.C_drew ?_))); (case side4 => exact HC1_8.out); rintro e w17 ⟨rfl, hb⟩; refine ⟨_, rfl, ?_⟩;  replace BK394 := bk_ BK394 hb; replace HB := bs_ HB hb; (try clear hb)) | ((with_reducible refine Aw (f := 42) rfl ?_); refine gl_ (some 17) rfl Try.func42 #[.slice A0 l0.length c0, .slice A2 l2.length c2] ?_; (with_reducible refine (Bg.calls k _ _ l0 _ _ l2 false _ ?side1 ?side2 ?side3 ?side4 A6.out).mono ?_); (case side1 => repeat (first | exact (Kd.C_below HR0.out HB.out) | (with_reducible refine Kd.C_alloc ?_ _) | (with_reducible refine Kd.C_drewN ?_ _) | (with_reducible refine Kd.C_drew ?_))); (case side2 => exact HC0.out); (case side3 => repeat (first | exact (Kd.C_below HR2.out HB.out) | (with_reducible refine Kd.C_alloc ?_ _) | (with_reducible refine Kd.C_drewN ?_ _) | (with_reducible refine Kd.C_drew ?_))); (case side4 => exact HC2.out); rintro e w18 ⟨rfl, hb⟩; refine ⟨_, rfl, ?_⟩;  replace BK394 := bk_ BK394 hb; replace HB := bs_ HB hb; (try clear hb)))
 go_ret2
 exact en_ HB))
 ·(
 rw [if_neg c5] at H
 have c5b0 : (t395 == 0) = false := Dj c5
 have c5b1 : (t395 != 0) = true := Dm c5
 simp only [Option.some.injEq, Prod.mk.injEq] at H
 obtain ⟨rfl, rfl⟩ := H
 go_enter Try.func26, Try.ntmps26
 go_wp2_with (first | (refine bx_ (N := 4) (cs := #[.int .i64 a1_0, .string a1_1, .int .i64 a1_2, .bool a1_3, .int .i64 a1_4, .string a1_5, .int .i64 a1_6, .string a1_7, .slice A1_8 l1_8.length c1_8]) (t := 27) ?_; intro gb394 hg w19 hbox hb; have BK394 := Aa.mk (hbox); have GW394 := ge_ HB hg; have GE394 := ge_ HB hg; replace HB := bs_ HB hb; clear hb hbox hg; obtain ⟨C20_0, C20_1, C20_2, C20_3, C20_4, C20_5, C20_6, C20_7, C20_8⟩ := zc9_ BK394.out; obtain ⟨F20_0, F20_1, F20_2, F20_3, F20_4, F20_5, F20_6, F20_7, F20_8⟩ := zf9_ BK394.out) | ((with_reducible refine Aw (f := 30) rfl ?_); refine gl_ (some 11) rfl Try.func30 #[.slice A0 l0.length c0, .agg #[.int .i64 a1_0, .string a1_1, .int .i64 a1_2, .bool a1_3, .int .i64 a1_4, .string a1_5, .int .i64 a1_6, .string a1_7, .slice A1_8 l1_8.length c1_8]] ?_; (with_reducible refine (Bf.calls k _ _ l0 a1_0 a1_1 a1_2 a1_3 a1_4 a1_5 a1_6 a1_7 _ _ l1_8 t395 _ ?side1 ?side2 ?side3 ?side4 A4.out).mono ?_); (case side1 => repeat (first | exact (Kd.C_below HR0.out HB.out) | (with_reducible refine Kd.C_alloc ?_ _) | (with_reducible refine Kd.C_drewN ?_ _) | (with_reducible refine Kd.C_drew ?_))); (case side2 => exact HC0.out); (case side3 => repeat (first | exact (Kd.C_below HR1_8.out HB.out) | (with_reducible refine Kd.C_alloc ?_ _) | (with_reducible refine Kd.C_drewN ?_ _) | (with_reducible refine Kd.C_drew ?_))); (case side4 => exact HC1_8.out); rintro e w21 ⟨rfl, hb⟩; refine ⟨_, rfl, ?_⟩;  replace BK394 := bk_ BK394 hb; replace HB := bs_ HB hb; (try clear hb)))
 go_ret2
 exact en_ HB)
def Ba.l0 : Nat → List (S64) → List (List (S24)) → List Int → Int → Int → ByteArray → Int → Bool → Int → ByteArray → Int → ByteArray → List (S27) → Option (List Int × Int)
 | 0, _, _, _, _, _, _, _, _, _, _, _, _, _ => none
 | k + 1, x0, x2, x9, x10, x399000, x399001, x399002, x399003, x399004, x399005, x399006, x399007, x399008 => if x10 < (x2.length : Int) then (if 0 ≤ x10 then ((Cc.f k x0 x399000 x399001 x399002 x399003 x399004 x399005 x399006 x399007 x399008 (rd_L8 x2 x10)).bind fun bt404 => (if bt404.2 = 0 then (if bt404.1 = 1 then (if x9.length < 17592186044416 then (Ba.l0 k x0 x2 (x9 ++ [x10]) (wrap64 (x10 + 1)) x399000 x399001 x399002 x399003 x399004 x399005 x399006 x399007 x399008) else (none)) else (Ba.l0 k x0 x2 x9 (wrap64 (x10 + 1)) x399000 x399001 x399002 x399003 x399004 x399005 x399006 x399007 x399008)) else (some (([] : List Int), bt404.2)))) else (none)) else (some (x9, 0))
def Ba.f (k : Nat) (l0 : List (S64)) (a1_0 : Int) (a1_1 : ByteArray) (a1_2 : Int) (a1_3 : Bool) (a1_4 : Int) (a1_5 : ByteArray) (a1_6 : Int) (a1_7 : ByteArray) (l1_8 : List (S27)) (l2 : List (List (S24))) : Option (List Int × Int) := (Bf.f k l0 a1_0 a1_1 a1_2 a1_3 a1_4 a1_5 a1_6 a1_7 l1_8).bind fun t399 => (if t399 = 0 then (Ba.l0 k l0 l2 (([] : List Int)) 0 a1_0 a1_1 a1_2 a1_3 a1_4 a1_5 a1_6 a1_7 l1_8) else (some (([] : List Int), t399)))
theorem Ba.mono_l : ∀ k, (∀ y0 y1 y2 y3 y4 y5 y6 y7 y8 y9 y10 y11 y12, LeO (Ba.l0 k y0 y1 y2 y3 y4 y5 y6 y7 y8 y9 y10 y11 y12) (Ba.l0 (k + 1) y0 y1 y2 y3 y4 y5 y6 y7 y8 y9 y10 y11 y12))
 | 0 => fun _ _ _ _ _ _ _ _ _ _ _ _ _ r h => by simp [Ba.l0] at h
 | k + 1 => by
  have ih0 := Ba.mono_l k
  ·intro y0 y1 y2 y3 y4 y5 y6 y7 y8 y9 y10 y11 y12
   unfold Ba.l0
   repeat' first|(with_reducible first|exact ih0 _ _ _ _ _ _ _ _ _ _ _ _ _|exact Bf.mono _ _ _ _ _ _ _ _ _ _ _|exact Cc.mono _ _ _ _ _ _ _ _ _ _ _ _|exact LeO.refl _|exact LeO.none _|refine LeO.ite ?_ ?_|refine LeO.bind ?_ fun _=>?_)|exact ih0 _ _ _ _ _ _ _ _ _ _ _ _ _|exact Bf.mono _ _ _ _ _ _ _ _ _ _ _|exact Cc.mono _ _ _ _ _ _ _ _ _ _ _ _|exact LeO.none _|refine LeO.ite ?_ ?_|refine LeO.bind ?_ fun _=>?_
theorem Ba.mono : ∀ a0 a1 a2 a3 a4 a5 a6 a7 a8 a9 a10 k, LeO (Ba.f k a0 a1 a2 a3 a4 a5 a6 a7 a8 a9 a10) (Ba.f (k + 1) a0 a1 a2 a3 a4 a5 a6 a7 a8 a9 a10) := by
 intro a0 a1 a2 a3 a4 a5 a6 a7 a8 a9 a10 k
 have ih0 := Ba.mono_l k
 unfold Ba.f
 repeat' first|(with_reducible first|exact ih0 _ _ _ _ _ _ _ _ _ _ _ _ _|exact Bf.mono _ _ _ _ _ _ _ _ _ _ _|exact Cc.mono _ _ _ _ _ _ _ _ _ _ _ _|exact LeO.refl _|exact LeO.none _|refine LeO.ite ?_ ?_|refine LeO.bind ?_ fun _=>?_)|exact ih0 _ _ _ _ _ _ _ _ _ _ _ _ _|exact Bf.mono _ _ _ _ _ _ _ _ _ _ _|exact Cc.mono _ _ _ _ _ _ _ _ _ _ _ _|exact LeO.none _|refine LeO.ite ?_ ?_|refine LeO.bind ?_ fun _=>?_
def Ba.T8 : Bool × List (List Nat × List Nat) := (true, [([], []), ([], []), ([], []), ([], []), ([2, 3], [2, 3]), ([4], [4]), ([0, 1, 5], [0, 1, 5]), ([6], [6]), ([7], [7]), ([7], [7]), ([8, 6, 0, 1, 2, 3, 4, 5, 6, 7, 8], [8]), ([9, 10, 0, 1, 2, 3, 4, 5, 6, 7, 8, 9, 10], [9])])
def Ba.B8 : List Nat := [0, 0, 0, 0, 12, 28, 63, 127, 255, 255, 511, 2047]
theorem Ba.tab8 : rtab .any (opsOf Try.f17 8) = Ba.T8 := by kernel_rfl
theorem Ba.bits8 : waitsOk Ba.T8.2 Ba.B8 = true := by kernel_rfl
theorem Ba.calls (k : Nat) (A0 : Option Addr) (c0 : Nat) (l0 : List (S64)) (a1_0 : Int) (a1_1 : ByteArray) (a1_2 : Int) (a1_3 : Bool) (a1_4 : Int) (a1_5 : ByteArray) (a1_6 : Int) (a1_7 : ByteArray) (A1_8 : Option Addr) (c1_8 : Nat) (l1_8 : List (S27)) (A2 : Option Addr) (c2 : Nat) (l2 : List (List (S24))) (r1 : List Int) (r2 : Int) (w : World) (hr0 : Kd.C k64 w A0 l0.length l0) (hc0 : l0.length ≤ c0) (hr1_8 : Kd.C k27 w A1_8 l1_8.length l1_8) (hc1_8 : l1_8.length ≤ c1_8) (hr2 : Kd.C (Kd.slice 24 k24) w A2 l2.length l2) (hc2 : l2.length ≤ c2) (h : Ba.f k l0 a1_0 a1_1 a1_2 a1_3 a1_4 a1_5 a1_6 a1_7 l1_8 l2 = some (r1, r2)) :
  Calls Try.prog 17 #[.slice A0 l0.length c0, .agg #[.int .i64 a1_0, .string a1_1, .int .i64 a1_2, .bool a1_3, .int .i64 a1_4, .string a1_5, .int .i64 a1_6, .string a1_7, .slice A1_8 l1_8.length c1_8], .slice A2 l2.length c2] w fun e w' => ∃ v0_ : Value, e = .returned (.tuple #[v0_, .int .i64 r2]) ∧ Kd.R (Kd.int .i64) 3 w' w.heap.size (fun _ => True) v0_ r1 ∧ Below w.heap.size w w' := by
 have hu27 := Try.underlying27
 have HR0 := Aa.mk hr0
 have HC0 := Aa.mk hc0
 clear hr0 hc0
 have HR1_8 := Aa.mk hr1_8
 have HC1_8 := Aa.mk hc1_8
 clear hr1_8 hc1_8
 have HR2 := Aa.mk hr2
 have HC2 := Aa.mk hc2
 clear hr2 hc2
 have HB := Aa.mk (Below.refl w.heap.size w)
 have H : ((Bf.f k l0 a1_0 a1_1 a1_2 a1_3 a1_4 a1_5 a1_6 a1_7 l1_8).bind fun t399 => (if t399 = 0 then (Ba.l0 k l0 l2 (([] : List Int)) 0 a1_0 a1_1 a1_2 a1_3 a1_4 a1_5 a1_6 a1_7 l1_8) else (some (([] : List Int), t399)))) = some (r1, r2) := h
 clear h
 replace H := Dn H
 obtain ⟨t399, A40, H⟩ := H
 replace H : (if t399 = 0 then (Ba.l0 k l0 l2 (([] : List Int)) 0 a1_0 a1_1 a1_2 a1_3 a1_4 a1_5 a1_6 a1_7 l1_8) else (some (([] : List Int), t399))) = some (r1, r2) := H
 have A4 := Aa.mk A40
 clear A40
 by_cases c5 : t399 = 0
 ·(
 rw [if_pos c5] at H
 have c5b0 : (t399 == 0) = true := Dl c5
 have c5b1 : (t399 != 0) = false := Dk c5
 clear c5
 obtain ⟨y400, hy400⟩ : ∃ y_ : List Int, y_ = (([] : List Int)) := ⟨_, rfl⟩
 replace H : (Ba.l0 k l0 l2 y400 0 a1_0 a1_1 a1_2 a1_3 a1_4 a1_5 a1_6 a1_7 l1_8) = some (r1, r2) := by first | (rw [hy400]; with_reducible exact H) | (have H2_ := (Option.bind_some _ _).symm.trans H; rw [hy400]; with_reducible exact H2_) | (have H2_ := (Option.bind_some _ _).symm.trans H; with_reducible exact H2_) | with_reducible exact H | (rw [hy400]; exact H) | exact H
 have Ny400 := Aa.mk hy400
 clear hy400
 have H' := Aa.mk H
 clear H
 go_enter Try.func17, Try.ntmps17
 go_wp2_with (first | (refine bx_ (N := 4) (cs := #[.int .i64 a1_0, .string a1_1, .int .i64 a1_2, .bool a1_3, .int .i64 a1_4, .string a1_5, .int .i64 a1_6, .string a1_7, .slice A1_8 l1_8.length c1_8]) (t := 27) ?_; intro gb398 hg w6 hbox hb; have BK398 := Aa.mk (hbox); have GW398 := ge_ HB hg; have GE398 := ge_ HB hg; replace HB := bs_ HB hb; clear hb hbox hg; obtain ⟨C7_0, C7_1, C7_2, C7_3, C7_4, C7_5, C7_6, C7_7, C7_8⟩ := zc9_ BK398.out; obtain ⟨F7_0, F7_1, F7_2, F7_3, F7_4, F7_5, F7_6, F7_7, F7_8⟩ := zf9_ BK398.out) | ((with_reducible refine Aw (f := 30) rfl ?_); refine gl_ (some 15) rfl Try.func30 #[.slice A0 l0.length c0, .agg #[.int .i64 a1_0, .string a1_1, .int .i64 a1_2, .bool a1_3, .int .i64 a1_4, .string a1_5, .int .i64 a1_6, .string a1_7, .slice A1_8 l1_8.length c1_8]] ?_; (with_reducible refine (Bf.calls k _ _ l0 a1_0 a1_1 a1_2 a1_3 a1_4 a1_5 a1_6 a1_7 _ _ l1_8 t399 _ ?side1 ?side2 ?side3 ?side4 A4.out).mono ?_); (case side1 => repeat (first | exact (Kd.C_below HR0.out HB.out) | (with_reducible refine Kd.C_alloc ?_ _) | (with_reducible refine Kd.C_drewN ?_ _) | (with_reducible refine Kd.C_drew ?_))); (case side2 => exact HC0.out); (case side3 => repeat (first | exact (Kd.C_below HR1_8.out HB.out) | (with_reducible refine Kd.C_alloc ?_ _) | (with_reducible refine Kd.C_drewN ?_ _) | (with_reducible refine Kd.C_drew ?_))); (case side4 => exact HC1_8.out); rintro e w8 ⟨rfl, hb⟩; refine ⟨_, rfl, ?_⟩;  replace BK398 := bk_ BK398 hb; replace HB := bs_ HB hb; (try clear hb); (try clear hb2); (try clear hk); (try clear hi)) | ((with_reducible refine Cv (N := 19) rfl ?_); refine Kd.R_lit (Kd.int .i64) _ 3 ?hg (N := 19) ?hd (xs := ([] : List Int)) (inner := []) (ok := fun _ => True) (okp := fun _ => True) ?hr ?hp (fun _ hk => hk) trivial (Below.refl _ _) (Nat.le_refl _) (by simp) ?_; (case hd => rfl); (case hg => rfl); (case hr => first | (go_simp; done) | (go_simp; rfl)); (case hp => exact (Reps.none _ _)); intro v401 w9 ho10 hb hg_ hnew_; clear hg_ hnew_; (first | rw [← Ny400.out] at ho10 | (simp only [Int.reduceToNat] at ho10; rw [← Ny400.out] at ho10)); have HO402 := Aa.mk (Kd.R_lower ho10 (Ca (by repeat (first | (with_reducible first | exact HB.out | apply Ak | apply Ah | apply Aj | refine Ao ?_ GE398.out) | exact HB.out)))); replace BK398 := bk_ BK398 hb; replace HB := bs_ HB hb; clear hb ho10))
 go_loopg [9, 10] k (fun kq v9 v10 w' => ∃ (x9_1 : List Int) (x10_1 : Int), v10 = .int .i64 x10_1 ∧ Aa (Ba.l0 kq l0 l2 x9_1 x10_1 a1_0 a1_1 a1_2 a1_3 a1_4 a1_5 a1_6 a1_7 l1_8 = some (r1, r2)) ∧ Aa (kq ≤ k) ∧ Aa (Kd.R (Kd.int .i64) 3 w' w.heap.size (fun _ => True) v9 x9_1) ∧ Aa (w'.heap[gb398]? = some (.cells #[.int .i64 a1_0, .string a1_1, .int .i64 a1_2, .bool a1_3, .int .i64 a1_4, .string a1_5, .int .i64 a1_6, .string a1_7, (.slice A1_8 l1_8.length c1_8)] 27 (0, 0))) ∧ Aa (Below w.heap.size w w'))
 case atStart => exact ⟨_, _, (by first | rfl | (simp; done) | (simp [*]; done)), H', ⟨Nat.le_refl _⟩, ⟨by (with_reducible repeat (first | apply Kd.R_alloc | apply Kd.R_drewN | apply Kd.R_drew)); exact HO402.out⟩, ⟨by (with_reducible repeat (first | refine Ag ?_ _ | refine Af ?_ | refine Ae ?_ _)); exact BK398.out⟩, ⟨by repeat (first | (with_reducible first | exact HB.out | apply Ak | apply Ah | apply Aj | refine Ao ?_ GE398.out) | exact HB.out)⟩⟩
 case round =>(
 clear H'
 try clear c2
 try clear c5
 try clear c5b0
 try clear c5b1
 try clear C7_0 C7_1 C7_2 C7_3 C7_4 C7_5 C7_6 C7_7 C7_8
 try clear F7_0 F7_1 F7_2 F7_3 F7_4 F7_5 F7_6 F7_7 F7_8
 obtain ⟨x9_1, x10_1, rfl, HA, HK1, HO_9, BK398, HB⟩ := hrel
 cases gk with
 | zero => exact absurd HA.out (by simp [Ba.l0])
 | succ k1 =>(
 have H := HA.out
 clear HA
 simp only [Ba.l0] at H
 by_cases c11 : x10_1 < (l2.length : Int)
 ·(
 rw [if_pos c11] at H
 have c11b0 : decide (x10_1 < (l2.length : Int)) = true := decide_eq_true c11
 clear c11
 by_cases c12 : 0 ≤ x10_1
 ·(
 rw [if_pos c12] at H
 have c12b0 : decide (0 ≤ x10_1) = true := decide_eq_true c12
 clear c12
 replace H := Dn H
 obtain ⟨⟨t404, t405⟩, A130, H⟩ := H
 replace H : (if t405 = 0 then (if t404 = 1 then (if x9_1.length < 17592186044416 then (Ba.l0 k1 l0 l2 (x9_1 ++ [x10_1]) (wrap64 (x10_1 + 1)) a1_0 a1_1 a1_2 a1_3 a1_4 a1_5 a1_6 a1_7 l1_8) else (none)) else (Ba.l0 k1 l0 l2 x9_1 (wrap64 (x10_1 + 1)) a1_0 a1_1 a1_2 a1_3 a1_4 a1_5 a1_6 a1_7 l1_8)) else (some (([] : List Int), t405))) = some (r1, r2) := H
 have A13 := Aa.mk A130
 clear A130
 by_cases c14 : t405 = 0
 ·(
 rw [if_pos c14] at H
 have c14b0 : (t405 == 0) = true := Dl c14
 have c14b1 : (t405 != 0) = false := Dk c14
 clear c14
 by_cases c15 : t404 = 1
 ·(
 rw [if_pos c15] at H
 have c15b0 : (t404 == 1) = true := Dl c15
 have c15b1 : (t404 != 1) = false := Dk c15
 clear c15
 by_cases c16 : x9_1.length < 17592186044416
 ·(
 rw [if_pos c16] at H
 have LMc16 := Aa.mk c16
 clear c16
 obtain ⟨y406, hy406⟩ : ∃ y_ : List Int, y_ = (x9_1 ++ [x10_1]) := ⟨_, rfl⟩
 replace H : (Ba.l0 k1 l0 l2 y406 (wrap64 (x10_1 + 1)) a1_0 a1_1 a1_2 a1_3 a1_4 a1_5 a1_6 a1_7 l1_8) = some (r1, r2) := by first | (rw [hy406]; with_reducible exact H) | (have H2_ := (Option.bind_some _ _).symm.trans H; rw [hy406]; with_reducible exact H2_) | (have H2_ := (Option.bind_some _ _).symm.trans H; with_reducible exact H2_) | with_reducible exact H | (rw [hy406]; exact H) | exact H
 have Ny406 := Aa.mk hy406
 clear hy406
 have H' := Aa.mk H
 clear H
 try go_wp2
 replace HO_9 := Aa.mk (Kd.R_drew HO_9.out); replace BK398 := Aa.mk (Af BK398.out); replace HB := Aa.mk (Aj HB.out)
 have p403 : 0 ≤ (x10_1 : Int) := dt_
 have q403 : x10_1 < (l2.length : Int) := dt_
 obtain ⟨ad403, A403_0, c403_0, e403, hx403_0, hl403_0, hi403_0⟩ := at_L8 HR2.out x10_1 p403 q403
 have hw403_0 := hx403_0
 cases e403
 replace hx403_0 := hc_ HB hx403_0
 have HR403_0 := Aa.mk hi403_0
 have HC403_0 := Aa.mk hl403_0
 clear hi403_0 hl403_0
 replace p403 := eq_true p403
 replace q403 := eq_true q403
 refine start_ (n := 12) (S := fun w' => w'.cell? ⟨gb398, 0, none⟩ = some (.int .i64 a1_0) ∧ w'.cell? ⟨gb398, 1, none⟩ = some (.string a1_1) ∧ w'.cell? ⟨gb398, 2, none⟩ = some (.int .i64 a1_2) ∧ w'.cell? ⟨gb398, 3, none⟩ = some (.bool a1_3) ∧ w'.cell? ⟨gb398, 4, none⟩ = some (.int .i64 a1_4) ∧ w'.cell? ⟨gb398, 5, none⟩ = some (.string a1_5) ∧ w'.cell? ⟨gb398, 6, none⟩ = some (.int .i64 a1_6) ∧ w'.cell? ⟨gb398, 7, none⟩ = some (.string a1_7) ∧ w'.cell? ⟨gb398, 8, none⟩ = some (.slice A1_8 l1_8.length c1_8) ∧ w'.cell? (ad403.add (x10_1).toNat) = some (.slice A403_0 (rd_L8 l2 x10_1).length c403_0)) (ds := []) #[false, false, false, false, false, false, false, false, false, false, false, false] (by kernel_rfl) rfl rfl ⟨(Ab BK398.out 0).trans rfl, (Ab BK398.out 1).trans rfl, (Ab BK398.out 2).trans rfl, (Ab BK398.out 3).trans rfl, (Ab BK398.out 4).trans rfl, (Ab BK398.out 5).trans rfl, (Ab BK398.out 6).trans rfl, (Ab BK398.out 7).trans rfl, (Ab BK398.out 8).trans rfl, ((HB.out.cell (World.block_lt_of_cell? w _ hw403_0)).trans hw403_0)⟩ (fun hHeld => ?_); refine with_tabW Ba.tab8 Ba.bits8 (fun HT_ HW_ => ?_)
 generalize wr.drew = w17 at HO_9 BK398 HB HR403_0 hx403_0 hHeld ⊢
 refine pu_ 0 (some 27) (bl_ 12 1) ?_
 refine pu_ 2 (some 29) (bl_ 12 5) ?_
 refine pu_ 3 (some 30) (bl_ 12 13) ?_
 refine pu_ 4 (some 31) (bl_ 12 29) ?_
 refine ta_ 1 (some 28) (bl_ 12 31) hHeld ?_
 refine ta_ 5 (some 32) (bl_ 12 63) hHeld ?_
 refine one_ (i := 6) (N := some 33) #[true, true, true, true, true, true, true, false, false, false, false, false] rfl rfl (one_of HT_.out (by kernel_rfl)) (by decide) (fun K hK => ?_)
 refine gs_ Try.func26 #[.slice A0 l0.length c0, .agg #[.int .i64 a1_0, .string a1_1, .int .i64 a1_2, .bool a1_3, .int .i64 a1_4, .string a1_5, .int .i64 a1_6, .string a1_7, .slice A1_8 l1_8.length c1_8], .slice A403_0 (rd_L8 l2 x10_1).length c403_0] ?_
 with_reducible refine (Cc.calls k1 _ _ l0 a1_0 a1_1 a1_2 a1_3 a1_4 a1_5 a1_6 a1_7 _ _ l1_8 _ _ (rd_L8 l2 x10_1) t404 t405 _ ?side1 ?side2 ?side3 ?side4 ?side5 ?side6 A13.out).mono ?_
 (case side1 => repeat (first | exact (Kd.C_below HR0.out HB.out) | (with_reducible refine Kd.C_alloc ?_ _) | (with_reducible refine Kd.C_drewN ?_ _) | (with_reducible refine Kd.C_drew ?_)))
 (case side2 => exact HC0.out)
 (case side3 => repeat (first | exact (Kd.C_below HR1_8.out HB.out) | (with_reducible refine Kd.C_alloc ?_ _) | (with_reducible refine Kd.C_drewN ?_ _) | (with_reducible refine Kd.C_drew ?_)))
 (case side4 => exact HC1_8.out)
 (case side5 => repeat (first | exact (Kd.C_below HR403_0.out HB.out) | (with_reducible refine Kd.C_alloc ?_ _) | (with_reducible refine Kd.C_drewN ?_ _) | (with_reducible refine Kd.C_drew ?_)))
 (case side6 => exact HC403_0.out)
 rintro e w18 ⟨rfl, hb⟩
 refine ⟨_, rfl, ?_⟩
 replace HO_9 := Aa.mk (Kd.R_below (by (with_reducible repeat (first | apply Kd.R_alloc | apply Kd.R_drewN | apply Kd.R_drew)); exact HO_9.out) hb); replace BK398 := bk_ BK398 hb; replace HB := bs_ HB hb
 (try clear hb)
 (try clear hb2)
 (try clear hk)
 (try clear hi)
 refine hK.out _ _ ⟨(Ab BK398.out 0).trans rfl, (Ab BK398.out 1).trans rfl, (Ab BK398.out 2).trans rfl, (Ab BK398.out 3).trans rfl, (Ab BK398.out 4).trans rfl, (Ab BK398.out 5).trans rfl, (Ab BK398.out 6).trans rfl, (Ab BK398.out 7).trans rfl, (Ab BK398.out 8).trans rfl, ((HB.out.cell (World.block_lt_of_cell? w _ hw403_0)).trans hw403_0)⟩ (fun hHeld => ?_)
 clear hK K
 refine norm_ (a' := ?_) ?_ ?_
 rotate_left
 ·(
 show Act.put _ (some 33) _ = _
 simp only [Act.put, List.setIfInBounds_toArray, List.set_cons_zero, List.set_cons_succ, i64_w, i32_w]
 rfl)
 refine pu_ 7 (some 26) (bl_ 12 255) ?_
 refine pu_ 8 (some 34) (bl_ 12 511) ?_
 refine pu_ 9 (some 35) (bl_ 12 1023) ?_
 refine pu_ 10 (some 11) (bl_ 12 2047) ?_
 refine pu_ 11 (some 12) (bl_ 12 4095) ?_
 refine done_ (done_of HT_.out (by kernel_rfl)) ?_
 try go_wp2_with (first | ((with_reducible refine Dg (b := .append) (xs := #[.tmp 41, .tmp 43]) rfl ?_); at_builtin; refine Kd.R_append (Kd.int .i64) (w0 := w) w.heap.size rfl (.tmp 41) (.tmp 43) 46 3 (.int .i64 0) 8 rfl Try.underlying46 info3 rfl (by decide) (by omega) u9 x9_1 x10_1 [.int .i64 x10_1] (fun _ => True) (fun _ => False) rfl rfl ?aP (fun _ hk => hk.elim) ?aF ?aO ?aB ?aS ?aL ?_; (case aP => exact rfl); (case aB => exact (by repeat (first | (with_reducible first | exact HB.out | apply Ak | apply Ah | apply Aj | refine Ao ?_ GE398.out) | exact HB.out))); (case aF => exact (fun _ _ => trivial)); (case aO => exact (by (with_reducible repeat (first | apply Kd.R_alloc | apply Kd.R_drewN | apply Kd.R_drew)); exact HO_9.out)); (case aS => exact (Ca (by repeat (first | (with_reducible first | exact HB.out | apply Ak | apply Ah | apply Aj | refine Ao ?_ GE398.out) | exact HB.out)))); (case aL => have := LMc16.out; omega); intro v407 w19 ho hb hg hat; rw [← Ny406.out] at ho; have n0_ := Aa.mk (blk_grown (by (with_reducible repeat (first | refine Ag ?_ _ | refine Af ?_ | refine Ae ?_ _)); exact BK398.out) hg (Kd.R_ne HO_9.out BK398.out (by decide))); have n1_ := Aa.mk (hb); have n2_ := Aa.mk (ho); clear BK398; clear HB; clear HO_9; have BK398 := n0_; have HB := n1_; have HO408 := n2_; clear n0_ n1_ n2_; clear ho hb hg hat))
 go_roundg k1
 case measure => have := HK1.out; omega
 case rel => exact ⟨_, _, (by first | rfl | (simp; done) | (simp [*]; done)), H', ⟨by have := HK1.out; omega⟩, ⟨by (with_reducible repeat (first | apply Kd.R_alloc | apply Kd.R_drewN | apply Kd.R_drew)); exact HO408.out⟩, ⟨by (with_reducible repeat (first | refine Ag ?_ _ | refine Af ?_ | refine Ae ?_ _)); exact BK398.out⟩, ⟨by repeat (first | (with_reducible first | exact HB.out | apply Ak | apply Ah | apply Aj | refine Ao ?_ GE398.out) | exact HB.out)⟩⟩)
 ·(
 rw [if_neg c16] at H
 exact absurd H (by simp)))
 ·(
 rw [if_neg c15] at H
 have c15b0 : (t404 == 1) = false := Dj c15
 have c15b1 : (t404 != 1) = true := Dm c15
 have H' := Aa.mk H
 clear H
 try go_wp2
 replace HO_9 := Aa.mk (Kd.R_drew HO_9.out); replace BK398 := Aa.mk (Af BK398.out); replace HB := Aa.mk (Aj HB.out)
 have p403 : 0 ≤ (x10_1 : Int) := dt_
 have q403 : x10_1 < (l2.length : Int) := dt_
 obtain ⟨ad403, A403_0, c403_0, e403, hx403_0, hl403_0, hi403_0⟩ := at_L8 HR2.out x10_1 p403 q403
 have hw403_0 := hx403_0
 cases e403
 replace hx403_0 := hc_ HB hx403_0
 have HR403_0 := Aa.mk hi403_0
 have HC403_0 := Aa.mk hl403_0
 clear hi403_0 hl403_0
 replace p403 := eq_true p403
 replace q403 := eq_true q403
 refine start_ (n := 12) (S := fun w' => w'.cell? ⟨gb398, 0, none⟩ = some (.int .i64 a1_0) ∧ w'.cell? ⟨gb398, 1, none⟩ = some (.string a1_1) ∧ w'.cell? ⟨gb398, 2, none⟩ = some (.int .i64 a1_2) ∧ w'.cell? ⟨gb398, 3, none⟩ = some (.bool a1_3) ∧ w'.cell? ⟨gb398, 4, none⟩ = some (.int .i64 a1_4) ∧ w'.cell? ⟨gb398, 5, none⟩ = some (.string a1_5) ∧ w'.cell? ⟨gb398, 6, none⟩ = some (.int .i64 a1_6) ∧ w'.cell? ⟨gb398, 7, none⟩ = some (.string a1_7) ∧ w'.cell? ⟨gb398, 8, none⟩ = some (.slice A1_8 l1_8.length c1_8) ∧ w'.cell? (ad403.add (x10_1).toNat) = some (.slice A403_0 (rd_L8 l2 x10_1).length c403_0)) (ds := []) #[false, false, false, false, false, false, false, false, false, false, false, false] (by kernel_rfl) rfl rfl ⟨(Ab BK398.out 0).trans rfl, (Ab BK398.out 1).trans rfl, (Ab BK398.out 2).trans rfl, (Ab BK398.out 3).trans rfl, (Ab BK398.out 4).trans rfl, (Ab BK398.out 5).trans rfl, (Ab BK398.out 6).trans rfl, (Ab BK398.out 7).trans rfl, (Ab BK398.out 8).trans rfl, ((HB.out.cell (World.block_lt_of_cell? w _ hw403_0)).trans hw403_0)⟩ (fun hHeld => ?_); refine with_tabW Ba.tab8 Ba.bits8 (fun HT_ HW_ => ?_)
 generalize wr.drew = w20 at HO_9 BK398 HB HR403_0 hx403_0 hHeld ⊢
 refine pu_ 0 (some 27) (bl_ 12 1) ?_
 refine pu_ 2 (some 29) (bl_ 12 5) ?_
 refine pu_ 3 (some 30) (bl_ 12 13) ?_
 refine pu_ 4 (some 31) (bl_ 12 29) ?_
 refine ta_ 1 (some 28) (bl_ 12 31) hHeld ?_
 refine ta_ 5 (some 32) (bl_ 12 63) hHeld ?_
 refine one_ (i := 6) (N := some 33) #[true, true, true, true, true, true, true, false, false, false, false, false] rfl rfl (one_of HT_.out (by kernel_rfl)) (by decide) (fun K hK => ?_)
 refine gs_ Try.func26 #[.slice A0 l0.length c0, .agg #[.int .i64 a1_0, .string a1_1, .int .i64 a1_2, .bool a1_3, .int .i64 a1_4, .string a1_5, .int .i64 a1_6, .string a1_7, .slice A1_8 l1_8.length c1_8], .slice A403_0 (rd_L8 l2 x10_1).length c403_0] ?_
 with_reducible refine (Cc.calls k1 _ _ l0 a1_0 a1_1 a1_2 a1_3 a1_4 a1_5 a1_6 a1_7 _ _ l1_8 _ _ (rd_L8 l2 x10_1) t404 t405 _ ?side1 ?side2 ?side3 ?side4 ?side5 ?side6 A13.out).mono ?_
 (case side1 => repeat (first | exact (Kd.C_below HR0.out HB.out) | (with_reducible refine Kd.C_alloc ?_ _) | (with_reducible refine Kd.C_drewN ?_ _) | (with_reducible refine Kd.C_drew ?_)))
 (case side2 => exact HC0.out)
 (case side3 => repeat (first | exact (Kd.C_below HR1_8.out HB.out) | (with_reducible refine Kd.C_alloc ?_ _) | (with_reducible refine Kd.C_drewN ?_ _) | (with_reducible refine Kd.C_drew ?_)))
 (case side4 => exact HC1_8.out)
 (case side5 => repeat (first | exact (Kd.C_below HR403_0.out HB.out) | (with_reducible refine Kd.C_alloc ?_ _) | (with_reducible refine Kd.C_drewN ?_ _) | (with_reducible refine Kd.C_drew ?_)))
 (case side6 => exact HC403_0.out)
 rintro e w21 ⟨rfl, hb⟩
 refine ⟨_, rfl, ?_⟩
 replace HO_9 := Aa.mk (Kd.R_below (by (with_reducible repeat (first | apply Kd.R_alloc | apply Kd.R_drewN | apply Kd.R_drew)); exact HO_9.out) hb); replace BK398 := bk_ BK398 hb; replace HB := bs_ HB hb
 (try clear hb)
 (try clear hk)
 refine hK.out _ _ ⟨(Ab BK398.out 0).trans rfl, (Ab BK398.out 1).trans rfl, (Ab BK398.out 2).trans rfl, (Ab BK398.out 3).trans rfl, (Ab BK398.out 4).trans rfl, (Ab BK398.out 5).trans rfl, (Ab BK398.out 6).trans rfl, (Ab BK398.out 7).trans rfl, (Ab BK398.out 8).trans rfl, ((HB.out.cell (World.block_lt_of_cell? w _ hw403_0)).trans hw403_0)⟩ (fun hHeld => ?_)
 clear hK K
 refine norm_ (a' := ?_) ?_ ?_
 rotate_left
 ·(
 show Act.put _ (some 33) _ = _
 simp only [Act.put, List.setIfInBounds_toArray, List.set_cons_zero, List.set_cons_succ, i64_w, i32_w]
 rfl)
 refine pu_ 7 (some 26) (bl_ 12 255) ?_
 refine pu_ 8 (some 34) (bl_ 12 511) ?_
 refine pu_ 9 (some 35) (bl_ 12 1023) ?_
 refine pu_ 10 (some 11) (bl_ 12 2047) ?_
 refine pu_ 11 (some 12) (bl_ 12 4095) ?_
 refine done_ (done_of HT_.out (by kernel_rfl)) ?_
 try go_wp2
 go_roundg k1
 case measure => have := HK1.out; omega
 case rel => exact ⟨_, _, (by first | rfl | (simp; done) | (simp [*]; done)), H', ⟨by have := HK1.out; omega⟩, ⟨by (with_reducible repeat (first | apply Kd.R_alloc | apply Kd.R_drewN | apply Kd.R_drew)); exact HO_9.out⟩, ⟨by (with_reducible repeat (first | refine Ag ?_ _ | refine Af ?_ | refine Ae ?_ _)); exact BK398.out⟩, ⟨by repeat (first | (with_reducible first | exact HB.out | apply Ak | apply Ah | apply Aj | refine Ao ?_ GE398.out) | exact HB.out)⟩⟩))
 ·(
 rw [if_neg c14] at H
 have c14b0 : (t405 == 0) = false := Dj c14
 have c14b1 : (t405 != 0) = true := Dm c14
 simp only [Option.some.injEq, Prod.mk.injEq] at H
 obtain ⟨rfl, rfl⟩ := H
 try go_wp2
 replace HO_9 := Aa.mk (Kd.R_drew HO_9.out); replace BK398 := Aa.mk (Af BK398.out); replace HB := Aa.mk (Aj HB.out)
 have p403 : 0 ≤ (x10_1 : Int) := dt_
 have q403 : x10_1 < (l2.length : Int) := dt_
 obtain ⟨ad403, A403_0, c403_0, e403, hx403_0, hl403_0, hi403_0⟩ := at_L8 HR2.out x10_1 p403 q403
 have hw403_0 := hx403_0
 cases e403
 replace hx403_0 := hc_ HB hx403_0
 have HR403_0 := Aa.mk hi403_0
 have HC403_0 := Aa.mk hl403_0
 clear hi403_0 hl403_0
 replace p403 := eq_true p403
 replace q403 := eq_true q403
 refine start_ (n := 12) (S := fun w' => w'.cell? ⟨gb398, 0, none⟩ = some (.int .i64 a1_0) ∧ w'.cell? ⟨gb398, 1, none⟩ = some (.string a1_1) ∧ w'.cell? ⟨gb398, 2, none⟩ = some (.int .i64 a1_2) ∧ w'.cell? ⟨gb398, 3, none⟩ = some (.bool a1_3) ∧ w'.cell? ⟨gb398, 4, none⟩ = some (.int .i64 a1_4) ∧ w'.cell? ⟨gb398, 5, none⟩ = some (.string a1_5) ∧ w'.cell? ⟨gb398, 6, none⟩ = some (.int .i64 a1_6) ∧ w'.cell? ⟨gb398, 7, none⟩ = some (.string a1_7) ∧ w'.cell? ⟨gb398, 8, none⟩ = some (.slice A1_8 l1_8.length c1_8) ∧ w'.cell? (ad403.add (x10_1).toNat) = some (.slice A403_0 (rd_L8 l2 x10_1).length c403_0)) (ds := []) #[false, false, false, false, false, false, false, false, false, false, false, false] (by kernel_rfl) rfl rfl ⟨(Ab BK398.out 0).trans rfl, (Ab BK398.out 1).trans rfl, (Ab BK398.out 2).trans rfl, (Ab BK398.out 3).trans rfl, (Ab BK398.out 4).trans rfl, (Ab BK398.out 5).trans rfl, (Ab BK398.out 6).trans rfl, (Ab BK398.out 7).trans rfl, (Ab BK398.out 8).trans rfl, ((HB.out.cell (World.block_lt_of_cell? w _ hw403_0)).trans hw403_0)⟩ (fun hHeld => ?_); refine with_tabW Ba.tab8 Ba.bits8 (fun HT_ HW_ => ?_)
 generalize wr.drew = w22 at HO_9 BK398 HB HR403_0 hx403_0 hHeld ⊢
 refine pu_ 0 (some 27) (bl_ 12 1) ?_
 refine pu_ 2 (some 29) (bl_ 12 5) ?_
 refine pu_ 3 (some 30) (bl_ 12 13) ?_
 refine pu_ 4 (some 31) (bl_ 12 29) ?_
 refine ta_ 1 (some 28) (bl_ 12 31) hHeld ?_
 refine ta_ 5 (some 32) (bl_ 12 63) hHeld ?_
 refine one_ (i := 6) (N := some 33) #[true, true, true, true, true, true, true, false, false, false, false, false] rfl rfl (one_of HT_.out (by kernel_rfl)) (by decide) (fun K hK => ?_)
 refine gs_ Try.func26 #[.slice A0 l0.length c0, .agg #[.int .i64 a1_0, .string a1_1, .int .i64 a1_2, .bool a1_3, .int .i64 a1_4, .string a1_5, .int .i64 a1_6, .string a1_7, .slice A1_8 l1_8.length c1_8], .slice A403_0 (rd_L8 l2 x10_1).length c403_0] ?_
 with_reducible refine (Cc.calls k1 _ _ l0 a1_0 a1_1 a1_2 a1_3 a1_4 a1_5 a1_6 a1_7 _ _ l1_8 _ _ (rd_L8 l2 x10_1) t404 t405 _ ?side1 ?side2 ?side3 ?side4 ?side5 ?side6 A13.out).mono ?_
 (case side1 => repeat (first | exact (Kd.C_below HR0.out HB.out) | (with_reducible refine Kd.C_alloc ?_ _) | (with_reducible refine Kd.C_drewN ?_ _) | (with_reducible refine Kd.C_drew ?_)))
 (case side2 => exact HC0.out)
 (case side3 => repeat (first | exact (Kd.C_below HR1_8.out HB.out) | (with_reducible refine Kd.C_alloc ?_ _) | (with_reducible refine Kd.C_drewN ?_ _) | (with_reducible refine Kd.C_drew ?_)))
 (case side4 => exact HC1_8.out)
 (case side5 => repeat (first | exact (Kd.C_below HR403_0.out HB.out) | (with_reducible refine Kd.C_alloc ?_ _) | (with_reducible refine Kd.C_drewN ?_ _) | (with_reducible refine Kd.C_drew ?_)))
 (case side6 => exact HC403_0.out)
 rintro e w23 ⟨rfl, hb⟩
 refine ⟨_, rfl, ?_⟩
 replace HO_9 := Aa.mk (Kd.R_below (by (with_reducible repeat (first | apply Kd.R_alloc | apply Kd.R_drewN | apply Kd.R_drew)); exact HO_9.out) hb); replace BK398 := bk_ BK398 hb; replace HB := bs_ HB hb
 (try clear hb)
 refine hK.out _ _ ⟨(Ab BK398.out 0).trans rfl, (Ab BK398.out 1).trans rfl, (Ab BK398.out 2).trans rfl, (Ab BK398.out 3).trans rfl, (Ab BK398.out 4).trans rfl, (Ab BK398.out 5).trans rfl, (Ab BK398.out 6).trans rfl, (Ab BK398.out 7).trans rfl, (Ab BK398.out 8).trans rfl, ((HB.out.cell (World.block_lt_of_cell? w _ hw403_0)).trans hw403_0)⟩ (fun hHeld => ?_)
 clear hK K
 refine norm_ (a' := ?_) ?_ ?_
 rotate_left
 ·(
 show Act.put _ (some 33) _ = _
 simp only [Act.put, List.setIfInBounds_toArray, List.set_cons_zero, List.set_cons_succ, i64_w, i32_w]
 rfl)
 refine pu_ 7 (some 26) (bl_ 12 255) ?_
 refine pu_ 8 (some 34) (bl_ 12 511) ?_
 refine pu_ 9 (some 35) (bl_ 12 1023) ?_
 refine pu_ 10 (some 11) (bl_ 12 2047) ?_
 refine pu_ 11 (some 12) (bl_ 12 4095) ?_
 refine done_ (done_of HT_.out (by kernel_rfl)) ?_
 try go_wp2
 go_ret2
 exact ⟨_, by first | rfl | (simp [errW_none, errW_some] <;> rfl) | (simp [*, errW_none, errW_some] <;> rfl), by first | exact Kd.R_nil _ _ _ _ _ | exact Kd.N_nil _ _ _ _ _ | exact Kd.V_nil _ _ _ _ _ | exact Kd.Q_nil _ _ _ _ _ | exact Kd.S_nil _ _ _ _ _, by repeat (first | (with_reducible first | exact HB.out | apply Ak | apply Ah | apply Aj | refine Ao ?_ GE398.out) | exact HB.out)⟩))
 ·(
 rw [if_neg c12] at H
 exact absurd H (by simp)))
 ·(
 rw [if_neg c11] at H
 have c11b0 : decide (x10_1 < (l2.length : Int)) = false := decide_eq_false c11
 clear c11
 simp only [Option.some.injEq, Prod.mk.injEq] at H
 obtain ⟨rfl, rfl⟩ := H
 go_wp2
 go_ret2
 exact ⟨_, by first | rfl | (simp [errW_none, errW_some] <;> rfl) | (simp [*, errW_none, errW_some] <;> rfl), by (with_reducible repeat (first | apply Kd.R_alloc | apply Kd.R_drewN | apply Kd.R_drew)); exact HO_9.out, by repeat (first | (with_reducible first | exact HB.out | apply Ak | apply Ah | apply Aj | refine Ao ?_ GE398.out) | exact HB.out)⟩))))
 ·(
 rw [if_neg c5] at H
 have c5b0 : (t399 == 0) = false := Dj c5
 have c5b1 : (t399 != 0) = true := Dm c5
 simp only [Option.some.injEq, Prod.mk.injEq] at H
 obtain ⟨rfl, rfl⟩ := H
 go_enter Try.func17, Try.ntmps17
 go_wp2_with (first | (refine bx_ (N := 4) (cs := #[.int .i64 a1_0, .string a1_1, .int .i64 a1_2, .bool a1_3, .int .i64 a1_4, .string a1_5, .int .i64 a1_6, .string a1_7, .slice A1_8 l1_8.length c1_8]) (t := 27) ?_; intro gb398 hg w24 hbox hb; have BK398 := Aa.mk (hbox); have GW398 := ge_ HB hg; have GE398 := ge_ HB hg; replace HB := bs_ HB hb; clear hb hbox hg; obtain ⟨C25_0, C25_1, C25_2, C25_3, C25_4, C25_5, C25_6, C25_7, C25_8⟩ := zc9_ BK398.out; obtain ⟨F25_0, F25_1, F25_2, F25_3, F25_4, F25_5, F25_6, F25_7, F25_8⟩ := zf9_ BK398.out) | ((with_reducible refine Aw (f := 30) rfl ?_); refine gl_ (some 15) rfl Try.func30 #[.slice A0 l0.length c0, .agg #[.int .i64 a1_0, .string a1_1, .int .i64 a1_2, .bool a1_3, .int .i64 a1_4, .string a1_5, .int .i64 a1_6, .string a1_7, .slice A1_8 l1_8.length c1_8]] ?_; (with_reducible refine (Bf.calls k _ _ l0 a1_0 a1_1 a1_2 a1_3 a1_4 a1_5 a1_6 a1_7 _ _ l1_8 t399 _ ?side1 ?side2 ?side3 ?side4 A4.out).mono ?_); (case side1 => repeat (first | exact (Kd.C_below HR0.out HB.out) | (with_reducible refine Kd.C_alloc ?_ _) | (with_reducible refine Kd.C_drewN ?_ _) | (with_reducible refine Kd.C_drew ?_))); (case side2 => exact HC0.out); (case side3 => repeat (first | exact (Kd.C_below HR1_8.out HB.out) | (with_reducible refine Kd.C_alloc ?_ _) | (with_reducible refine Kd.C_drewN ?_ _) | (with_reducible refine Kd.C_drew ?_))); (case side4 => exact HC1_8.out); rintro e w26 ⟨rfl, hb⟩; refine ⟨_, rfl, ?_⟩;  replace BK398 := bk_ BK398 hb; replace HB := bs_ HB hb; (try clear hb); (try clear hb2); (try clear hk); (try clear hi)))
 go_ret2
 exact ⟨_, by first | rfl | (simp [errW_none, errW_some] <;> rfl) | (simp [*, errW_none, errW_some] <;> rfl), by first | exact Kd.R_nil _ _ _ _ _ | exact Kd.N_nil _ _ _ _ _ | exact Kd.V_nil _ _ _ _ _ | exact Kd.Q_nil _ _ _ _ _ | exact Kd.S_nil _ _ _ _ _, by repeat (first | (with_reducible first | exact HB.out | apply Ak | apply Ah | apply Aj | refine Ao ?_ GE398.out) | exact HB.out)⟩)
theorem rdL8_get (l : List (List S24)) (i : Nat) (h : i < l.length) : rd_L8 l (i : Int) = l[i] := by
 simp only [rd_L8, Int.toNat_natCast, List.getD_eq_getElem?_getD, List.getElem?_eq_getElem h, Option.getD_some]
def rowFrom (l0 : List S64) (l1 : List S24) : Nat → Nat → Bool
  | 0, _ => true
  | n + 1, i => (Br.f (Bj l0 (i : Int)).f1 (Bj l0 (i : Int)).f2 (Ax l1 (i : Int)).f0 (Ax l1 (i : Int)).f1 (Ax l1 (i : Int)).f2).getD false && rowFrom l0 l1 n (i + 1)
def rowB (l0 : List S64) (l1 : List S24) : Bool := decide (l0.length = l1.length) && rowFrom l0 l1 l0.length 0
theorem rowFrom_all (l0 : List S64) (l1 : List S24) : ∀ (n i : Nat), rowFrom l0 l1 n i = true → ∀ j, i ≤ j → j < i + n →
    Br.f (Bj l0 (j : Int)).f1 (Bj l0 (j : Int)).f2 (Ax l1 (j : Int)).f0 (Ax l1 (j : Int)).f1 (Ax l1 (j : Int)).f2 = some true
  | 0, i, _, j, h1, h2 => by omega
  | n + 1, i, h, j, h1, h2 => by
    rw [rowFrom, Bool.and_eq_true] at h
    by_cases e : j = i
    · subst e
      obtain ⟨b, hb⟩ := cellMay_ans (Bj l0 (j : Int)).f1 (Bj l0 (j : Int)).f2 (Ax l1 (j : Int)).f0 (Ax l1 (j : Int)).f1 (Ax l1 (j : Int)).f2
      have h0 := h.1
      rw [hb] at h0 ⊢
      exact congrArg some h0
    · exact rowFrom_all l0 l1 n (i + 1) h.2 j (by omega) (by omega)
theorem row12 (l0 : List S64) (l1 : List S24) (hl : l0.length ≤ 9223372036854775806) : TotP (fun r => r = rowB l0 l1) (fun k => Bg.f k l0 l1) := by
 unfold Bg.f rowB
 refine TotP.ite (fun he => ?_) (fun he => TotP.some_ (by rw [decide_eq_false (by omega)]; rfl))
 rw [decide_eq_true (by omega), Bool.true_and]
 have key : ∀ (n i : Nat), i + n = l0.length → TotP (fun r => r = rowFrom l0 l1 n i) (fun k => Bg.l0 k l0 l1 (i : Int)) := by(
 intro n
 induction n with
 | zero =>(
 intro i hi
 refine TotP.succ (fun k => by simp only [Bg.l0]; rfl) ?_
 exact TotP.ite (fun h => absurd h (by omega)) (fun _ => TotP.some_ rfl))
 | succ n ih =>(
 intro i hi
 refine TotP.succ (fun k => by simp only [Bg.l0]; rfl) ?_
 refine TotP.ite (fun _ => ?_) (fun h => absurd (by omega) h)
 refine TotP.ite (fun _ => ?_) (fun h => absurd (by omega) h)
 refine TotP.ite (fun _ => ?_) (fun h => absurd (by omega) h)
 rw [rowFrom]
 refine TotP.bind (may09 _ _ _ _ _) (fun b hb => ?_)
 rw [hb]
 simp only [Option.getD_some]
 rw [wrap_in (by omega) (by omega), show (i : Int) + 1 = ((i + 1 : Nat) : Int) by omega]
 exact TotP.ite (fun h => (ih (i + 1) (by omega)).weak (fun r hr => by rw [hr, h, Bool.true_and])) (fun h => TotP.some_ (by rw [show b = false by simpa using h]; rfl))))
 simpa using key l0.length 0 (by omega)
theorem rowB_all (l0 : List S64) (l1 : List S24) (h : rowB l0 l1 = true) : l0.length = l1.length ∧ ∀ i : Nat, i < l0.length →
    Br.f (Bj l0 (i : Int)).f1 (Bj l0 (i : Int)).f2 (Ax l1 (i : Int)).f0 (Ax l1 (i : Int)).f1 (Ax l1 (i : Int)).f2 = some true := by
 unfold rowB at h
 rw [Bool.and_eq_true] at h
 exact ⟨of_decide_eq_true h.1, fun i hi => rowFrom_all l0 l1 _ _ h.2 i (by omega) (by omega)⟩
def ansE (l0 : List S64) (x : S27) (r : List S24) : Int × Int := if fitsE l0 x = 0 then (if rowB l0 r = true then (ask3 l0 r 6 x, 0) else (0, 10)) else (0, fitsE l0 x)
theorem refRow (l0 : List S64) (x : S27) (r : List S24) (hl : l0.length ≤ 9223372036854775806) (hs : ∀ y, y ∈ l0 → y.f0.size ≤ 9223372036854775806) (hL : Fine 6 x) :
    TotP (fun a => a = ansE l0 x r) (fun k => Cc.f k l0 x.f0 x.f1 x.f2 x.f3.f0 x.f3.f1 x.f3.f2 x.f4 x.f5 x.f6 r) := by
 unfold Cc.f ansE
 refine TotP.bind (fits17 l0 x hl hs hL) (fun e he => ?_)
 subst he
 refine TotP.ite (fun h0 => ?_) (fun h0 => TotP.some_ (if_neg h0).symm)
 rw [if_pos h0]
 obtain ⟨hm, ht⟩ := fits_good3 l0 x h0
 refine TotP.bind (row12 l0 r hl) (fun b hb => ?_)
 subst hb
 refine TotP.ite (fun g => ?_) (fun g => TotP.some_ (by rw [if_neg g]))
 obtain ⟨hz, hc⟩ := rowB_all l0 r g
 exact TotP.bind (truth20 l0 r hz hl hc 6 x (Fine.lens 6 x hL) hm ht) (fun t ht => TotP.some_ (by rw [if_pos g, ht]))
def rowsA (f : List S24 → Int × Int) : List (List S24) → Int → List Int → List Int × Int
  | [], _, acc => (acc, 0)
  | r :: rs, i, acc => if (f r).2 = 0 then (if (f r).1 = 1 then rowsA f rs (i + 1) (acc ++ [i]) else rowsA f rs (i + 1) acc) else ([], (f r).2)
def ansR (l0 : List S64) (x : S27) (l2 : List (List S24)) : List Int × Int := if fitsE l0 x = 0 then rowsA (ansE l0 x) l2 0 [] else ([], fitsE l0 x)
theorem refRows (l0 : List S64) (x : S27) (l2 : List (List S24)) (hl : l0.length ≤ 9223372036854775806) (hs : ∀ y, y ∈ l0 → y.f0.size ≤ 9223372036854775806) (h2 : l2.length ≤ 210) (hL : Fine 6 x) :
    TotP (fun a => a = ansR l0 x l2) (fun k => Ba.f k l0 x.f0 x.f1 x.f2 x.f3.f0 x.f3.f1 x.f3.f2 x.f4 x.f5 x.f6 l2) := by
 unfold Ba.f ansR
 refine TotP.bind (fits17 l0 x hl hs hL) (fun e he => ?_)
 subst he
 refine TotP.ite (fun h0 => ?_) (fun h0 => TotP.some_ (if_neg h0).symm)
 rw [if_pos h0]
 have key : ∀ (n i : Nat) (acc : List Int), i + n = l2.length → acc.length ≤ i → TotP (fun a => a = rowsA (ansE l0 x) (l2.drop i) (i : Int) acc) (fun k => Ba.l0 k l0 l2 acc (i : Int) x.f0 x.f1 x.f2 x.f3.f0 x.f3.f1 x.f3.f2 x.f4 x.f5 x.f6) := by(
 intro n
 induction n with
 | zero =>(
 intro i acc hi ha
 refine TotP.succ (fun k => by simp only [Ba.l0]; rfl) ?_
 refine TotP.ite (fun h => absurd h (by omega)) (fun _ => TotP.some_ ?_)
 rw [List.drop_of_length_le (by omega)]; rfl)
 | succ n ih =>(
 intro i acc hi ha
 refine TotP.succ (fun k => by simp only [Ba.l0]; rfl) ?_
 refine TotP.ite (fun _ => ?_) (fun h => absurd (by omega) h)
 refine TotP.ite (fun _ => ?_) (fun h => absurd (by omega) h)
 refine TotP.bind (refRow l0 x _ hl hs hL) (fun t ht => ?_)
 rw [rdL8_get l2 i (by omega)] at ht
 rw [wrap_in (by omega) (by omega), show (i : Int) + 1 = ((i + 1 : Nat) : Int) by omega]
 rw [List.drop_eq_getElem_cons (show i < l2.length by omega), rowsA, ← ht, show (i : Int) + 1 = ((i + 1 : Nat) : Int) by omega]
 refine TotP.ite (fun h2 => ?_) (fun h2 => TotP.some_ (by rw [if_neg h2]))
 rw [if_pos h2]
 refine TotP.ite (fun h1 => ?_) (fun h1 => ?_)
 ·(
 rw [if_pos h1]
 exact TotP.ite (fun _ => ih (i + 1) _ (by omega) (by simp; omega)) (fun h => absurd (by omega) h))
 ·(
 rw [if_neg h1]
 exact ih (i + 1) _ (by omega) (by omega))))
 simpa using key l2.length 0 [] (by omega) (by simp)
end Go.Proofs.Ytdedmhmomoejkaa.X
