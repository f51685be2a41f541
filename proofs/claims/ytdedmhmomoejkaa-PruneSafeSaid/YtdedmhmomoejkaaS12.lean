/- Words and walks for X.pruneSafe_holds, part 12 of the texts that a program of this session laid together. -/
import Derived.Test.YtdedmhmomoejkaaS1
import Derived.Test.YtdedmhmomoejkaaS2
import Derived.Test.YtdedmhmomoejkaaS6
import Derived.Test.YtdedmhmomoejkaaS7
import Derived.Test.YtdedmhmomoejkaaS8
import Derived.Test.YtdedmhmomoejkaaS9
import Derived.Test.YtdedmhmomoejkaaS10
import Derived.Test.YtdedmhmomoejkaaS11
import Derived.StillTailTactics
namespace Go.Proofs.Ytdedmhmomoejkaa.X
open Go.RowKit Go.Proofs.YtdedmhmomoejkaaW.PrintWords Go.Proofs.YtdedmhmomoejkaaW.PrintLast
set_option linter.unusedVariables false
set_option linter.unusedSimpArgs false
def vB (c : Int) (t : List Int) (can : Nat → Bool) : Nat → Bool
  | 0 => if c = 37 then can 0 else false
  | k + 1 => if c = 37 then (can (k + 1) || vB c t can k) else (can k && (c == 95 || c == t.getD k 0))
theorem vB_many (t : List Int) (can : Nat → Bool) : ∀ k, vB 37 t can k = true ↔ ∃ j, j ≤ k ∧ can j = true
  | 0 => by
    rw [vB, if_pos rfl]
    constructor
    · intro h; exact ⟨0, Nat.le_refl _, h⟩
    · rintro ⟨j, hj, h⟩
      obtain rfl : j = 0 := by omega
      exact h
  | k + 1 => by
    rw [vB, if_pos rfl, Bool.or_eq_true, vB_many t can k]
    constructor
    · rintro (h | ⟨j, hj, h⟩)
      · exact ⟨k + 1, Nat.le_refl _, h⟩
      · exact ⟨j, by omega, h⟩
    · rintro ⟨j, hj, h⟩
      by_cases e : j = k + 1
      · subst e; exact .inl h
      · exact .inr ⟨j, by omega, h⟩
def Reach (can : Nat → Bool) (q t : List Int) : Prop := ∃ k, k ≤ t.length ∧ can k = true ∧ wild q (t.drop k) = true
theorem reach_step (c : Int) (q t : List Int) (can : Nat → Bool) : Reach (vB c t can) q t ↔ Reach can (c :: q) t := by
 by_cases h : c = 37
 ·(
 subst h
 constructor
 ·(
 rintro ⟨k, hk, hv, hw⟩
 obtain ⟨j, hj, hc⟩ := (vB_many t can k).1 hv
 refine ⟨j, by omega, hc, ?_⟩
 rw [wild_many, anyS_iff]
 refine ⟨k - j, by rw [List.length_drop]; omega, ?_⟩
 rw [List.drop_drop, show j + (k - j) = k by omega]
 exact hw)
 ·(
 rintro ⟨j, hj, hc, hw⟩
 rw [wild_many, anyS_iff] at hw
 obtain ⟨n, hn, hw⟩ := hw
 rw [List.length_drop] at hn
 rw [List.drop_drop] at hw
 exact ⟨j + n, by omega, (vB_many t can (j + n)).2 ⟨j, by omega, hc⟩, hw⟩))
 ·(
 have h' : ¬ 37 = c := fun e => h e.symm
 constructor
 ·(
 rintro ⟨k, hk, hv, hw⟩
 cases k with
 | zero => rw [vB, if_neg h] at hv; cases hv
 | succ k =>(
 rw [vB, if_neg h, Bool.and_eq_true] at hv
 refine ⟨k, by omega, hv.1, ?_⟩
 have hg : t.getD k 0 = t[k] := by rw [List.getD_eq_getElem?_getD, List.getElem?_eq_getElem (by omega)]; rfl
 rw [hg] at hv
 rw [List.drop_eq_getElem_cons (show k < t.length by omega), wild_one _ _ _ _ h', Bool.and_eq_true]
 exact ⟨hv.2, hw⟩))
 ·(
 rintro ⟨k, hk, hc, hw⟩
 by_cases hl : k < t.length
 ·(
 rw [List.drop_eq_getElem_cons hl, wild_one _ _ _ _ h', Bool.and_eq_true] at hw
 refine ⟨k + 1, by omega, ?_, hw.2⟩
 have hg : t.getD k 0 = t[k] := by rw [List.getD_eq_getElem?_getD, List.getElem?_eq_getElem (by omega)]; rfl
 rw [vB, if_neg h, hg, Bool.and_eq_true]
 exact ⟨hc, hw.1⟩)
 ·(
 rw [List.drop_of_length_le (by omega), wild_none _ _ h'] at hw
 cases hw)))
def atN (l : List Bool) (k : Nat) : Bool := l.getD k false
theorem rdOf_nat (l : List Bool) (k : Nat) : rdOf false l (k : Int) = atN l k := rfl
theorem atN_set (l : List Bool) (j k : Nat) (v : Bool) (h : j < l.length) : atN (l.set j v) k = if k = j then v else atN l k := by
 unfold atN
 rw [List.getD_eq_getElem?_getD, List.getD_eq_getElem?_getD, List.getElem?_set]
 by_cases e : j = k
 ·subst e; rw [if_pos rfl, if_pos rfl, if_pos h]; rfl
 ·rw [if_neg e, if_neg (fun h' => e h'.symm)]
set_option maxHeartbeats 1000000 in
theorem inner15 (p t : List Int) (can : List Bool) (i : Nat) (hi : i < p.length) (hcan : can.length = t.length + 1) (ht : t.length ≤ 4398046511104) (P : Bool → Prop)
    (hout : ∀ x9 : List Bool, x9.length = t.length + 1 → (∀ k, k ≤ t.length → atN x9 k = vB p[i] t (atN can) k) → TotP P (fun k => Ai.l0 k p t x9 (wrap64 ((i : Int) + 1)))) :
    ∀ (n j : Nat) (x9 : List Bool), j + n = t.length + 1 → x9.length = t.length + 1 → (∀ k, k < j → atN x9 k = vB p[i] t (atN can) k) → TotP P (fun k => Ai.l1 k p t can (i : Int) x9 (j : Int)) := by
  intro n
  induction n with
  | zero =>
    intro j x9 hj hx hv
    refine TotP.succ (fun k => by simp only [Ai.l1]; rfl) ?_
    exact TotP.ite (fun h => absurd h (by omega)) (fun _ => hout x9 hx (fun k hk => hv k (by omega)))
  | succ n ih =>
    intro j x9 hj hx hv
    have go : ∀ v : Bool, v = vB p[i] t (atN can) j → TotP P (fun k => Ai.l1 k p t can (i : Int) (x9.set (j : Int).toNat v) (wrap64 ((j : Int) + 1))) := by
      intro v hvv
      rw [Int.toNat_natCast, wrap_in (by omega) (by omega), show (j : Int) + 1 = ((j + 1 : Nat) : Int) by omega]
      refine ih (j + 1) _ (by omega) (by rw [List.length_set]; exact hx) (fun k hk => ?_)
      rw [atN_set _ _ _ _ (by omega)]
      by_cases e : k = j
      · rw [if_pos e, e]; exact hvv
      · rw [if_neg e]; exact hv k (by omega)
    have rp : rd p (i : Int) = p[i] := rd_get p i hi
    refine TotP.succ (fun k => by simp only [Ai.l1]; rfl) ?_
    rw [rp, rdOf_nat]
    refine TotP.ite (fun _ => ?_) (fun h' => absurd (by omega) h')
    refine TotP.ite (fun _ => ?_) (fun h' => absurd (by omega) h')
    refine TotP.ite (fun _ => ?_) (fun h' => absurd (by omega) h')
    refine TotP.ite (fun hc => ?_) (fun hc => ?_)
    · refine TotP.ite (fun _ => ?_) (fun h' => absurd (by omega) h')
      refine TotP.ite (fun _ => ?_) (fun h' => absurd (by omega) h')
      refine TotP.ite (fun hr => ?_) (fun hr => ?_)
      · refine TotP.ite (fun _ => go _ ?_) (fun h' => absurd (by omega) h')
        cases j with
        | zero => rw [vB, if_pos hc, hr]
        | succ j => rw [vB, if_pos hc, hr, Bool.true_or]
      · have hr' : atN can j = false := by simpa using hr
        cases j with
        | zero =>
          refine TotP.ite (fun h' => absurd h' (by omega)) (fun _ => ?_)
          refine TotP.ite (fun _ => go _ ?_) (fun h' => absurd (by omega) h')
          rw [vB, if_pos hc, hr']
        | succ j =>
          rw [wrap_in (show (-9223372036854775808 : Int) ≤ ((j + 1 : Nat) : Int) - 1 by omega) (by omega), show ((j + 1 : Nat) : Int) - 1 = (j : Int) by omega, rdOf_nat]
          refine TotP.ite (fun _ => ?_) (fun h' => absurd (by omega) h')
          refine TotP.ite (fun _ => ?_) (fun h' => absurd (by omega) h')
          refine TotP.ite (fun _ => ?_) (fun h' => absurd (by omega) h')
          refine TotP.ite (fun _ => go _ ?_) (fun h' => absurd (by omega) h')
          rw [vB, if_pos hc, hr', Bool.false_or, hv j (by omega)]
    · cases j with
      | zero =>
        refine TotP.ite (fun h' => absurd h' (by omega)) (fun _ => ?_)
        refine TotP.ite (fun _ => ?_) (fun h' => absurd (by omega) h')
        refine TotP.ite (fun _ => go _ ?_) (fun h' => absurd (by omega) h')
        rw [vB, if_neg hc]
      | succ j =>
        rw [wrap_in (show (-9223372036854775808 : Int) ≤ ((j + 1 : Nat) : Int) - 1 by omega) (by omega), show ((j + 1 : Nat) : Int) - 1 = (j : Int) by omega, rdOf_nat, rd_get t j (by omega)]
        have hg : t.getD j 0 = t[j] := by rw [List.getD_eq_getElem?_getD, List.getElem?_eq_getElem (by omega)]; rfl
        refine TotP.ite (fun _ => ?_) (fun h' => absurd (by omega) h')
        refine TotP.ite (fun _ => ?_) (fun h' => absurd (by omega) h')
        refine TotP.ite (fun _ => ?_) (fun h' => absurd (by omega) h')
        refine TotP.ite (fun hr => ?_) (fun hr => ?_)
        · refine TotP.ite (fun h95 => ?_) (fun h95 => ?_)
          · refine TotP.ite (fun _ => ?_) (fun h' => absurd (by omega) h')
            refine TotP.ite (fun _ => go _ ?_) (fun h' => absurd (by omega) h')
            rw [vB, if_neg hc, hr, beq_iff_eq.2 h95]; rfl
          · refine TotP.ite (fun _ => ?_) (fun h' => absurd (by omega) h')
            refine TotP.ite (fun _ => ?_) (fun h' => absurd (by omega) h')
            refine TotP.ite (fun _ => go _ ?_) (fun h' => absurd (by omega) h')
            rw [vB, if_neg hc, hr, beq_eq_false_iff_ne.2 h95, hg]; rfl
        · have hr' : atN can j = false := by simpa using hr
          refine TotP.ite (fun _ => ?_) (fun h' => absurd (by omega) h')
          refine TotP.ite (fun _ => go _ ?_) (fun h' => absurd (by omega) h')
          rw [vB, if_neg hc, hr', Bool.false_and]
theorem outer15 (p t : List Int) (ht : t.length ≤ 4398046511104) (hp : p.length ≤ 4398046511104) :
    ∀ (n i : Nat) (can : List Bool), i + n = p.length → can.length = t.length + 1 → TotP (fun r => r = true ↔ Reach (atN can) (p.drop i) t) (fun k => Ai.l0 k p t can (i : Int)) := by
 intro n
 induction n with
 | zero =>(
 intro i can hi hcan
 refine TotP.succ (fun k => by simp only [Ai.l0]; rfl) ?_
 refine TotP.ite (fun h => absurd h (by omega)) (fun _ => ?_)
 refine TotP.ite (fun _ => ?_) (fun h' => absurd (by omega) h')
 refine TotP.ite (fun _ => ?_) (fun h' => absurd (by omega) h')
 refine TotP.some_ ?_
 rw [rdOf_nat, List.drop_of_length_le (show p.length ≤ i by omega)]
 constructor
 ·(
 intro h
 exact ⟨t.length, Nat.le_refl _, h, by rw [List.drop_of_length_le (Nat.le_refl _)]; rfl⟩)
 ·(
 rintro ⟨k, hk, hc, hw⟩
 rw [wild_nil, List.isEmpty_iff, List.drop_eq_nil_iff] at hw
 rw [show t.length = k by omega]; exact hc))
 | succ n ih =>(
 intro i can hi hcan
 refine TotP.succ (fun k => by simp only [Ai.l0]; rfl) ?_
 have hw : wrap64 ((t.length : Int) + 1) = ((t.length + 1 : Nat) : Int) := by rw [wrap_in (by omega) (by omega)]; omega
 rw [hw, Int.toNat_natCast]
 refine TotP.ite (fun _ => ?_) (fun h' => absurd (by omega) h')
 refine TotP.ite (fun _ => ?_) (fun h' => absurd (by omega) h')
 refine TotP.ite (fun _ => ?_) (fun h' => absurd (by omega) h')
 refine inner15 p t can i (by omega) hcan ht _ (fun x9 hx hv => ?_) (t.length + 1) 0 _ (by omega) (by simp) (fun k hk => absurd hk (by omega))
 rw [wrap_in (by omega) (by omega), show (i : Int) + 1 = ((i + 1 : Nat) : Int) by omega]
 refine (ih (i + 1) x9 (by omega) hx).weak (fun r hr => hr.trans ?_)
 rw [List.drop_eq_getElem_cons (show i < p.length by omega), ← reach_step]
 constructor
 ·rintro ⟨k, hk, hc, hw⟩; exact ⟨k, hk, by rw [← hv k hk]; exact hc, hw⟩
 ·rintro ⟨k, hk, hc, hw⟩; exact ⟨k, hk, by rw [hv k hk]; exact hc, hw⟩)
theorem first15 (p t : List Int) (hp : p.length ≤ 4398046511104) (ht : t.length ≤ 4398046511104) (can : List Bool) (hc : can = (List.replicate (t.length + 1) false).set 0 true) :
    TotP (fun r => r = wild p t) (fun k => Ai.l0 k p t can 0) := by
 have h0 : ∀ k, atN can k = true ↔ k = 0 := by(
 intro k
 rw [hc, atN_set _ _ _ _ (by simp)]
 by_cases e : k = 0
 ·simp [e]
 ·(
 rw [if_neg e]
 unfold atN
 rw [List.getD_eq_getElem?_getD, List.getElem?_replicate]
 split <;> simp [e]))
 have hl : can.length = t.length + 1 := by rw [hc]; simp
 have key := outer15 p t ht hp p.length 0 can (by omega) hl
 rw [List.drop_zero] at key
 have key2 : TotP (fun r => r = true ↔ Reach (atN can) p t) (fun k => Ai.l0 k p t can 0) := by simpa using key
 refine key2.weak (fun r hr => ?_)
 rw [Bool.eq_iff_iff, hr]
 constructor
 ·(
 rintro ⟨k, hk, hcc, hw⟩
 rw [h0] at hcc
 subst hcc
 exact hw)
 ·(
 intro h
 exact ⟨0, Nat.zero_le _, (h0 0).2 rfl, h⟩)
theorem body15 (p t : List Int) (hp : p.length ≤ 4398046511104) (ht : t.length ≤ 4398046511104) : TotP (fun r => r = wild p t)
    (fun k => if 0 ≤ (wrap64 ((t.length : Int) + 1)) then (if (wrap64 ((t.length : Int) + 1) : Int).toNat ≤ 281474976710656 then ((some (List.replicate (wrap64 ((t.length : Int) + 1) : Int).toNat false : List Bool)).bind fun y354 => (if 0 < (y354.length : Int) then (Ai.l0 k p t (y354.set (0 : Int).toNat true) 0) else (none))) else (none)) else (none)) := by
 have hw : wrap64 ((t.length : Int) + 1) = ((t.length + 1 : Nat) : Int) := by rw [wrap_in (by omega) (by omega)]; omega
 rw [hw, Int.toNat_natCast]
 refine TotP.ite (fun _ => ?_) (fun h' => absurd (by omega) h')
 refine TotP.ite (fun _ => ?_) (fun h' => absurd (by omega) h')
 simp only [Option.bind_some, List.length_replicate]
 refine TotP.ite (fun _ => ?_) (fun h' => absurd (by omega) h')
 exact first15 p t hp ht _ rfl
theorem fold15_some (s : ByteArray) (hp : s.size ≤ 4398046511104) : Cg.f s = some (foldR s) := by unfold Cg.f; rw [if_pos hp]
def rest15 (k : Nat) (p t : List Int) : Option Bool := (if 0 ≤ (wrap64 ((t.length : Int) + 1)) then (if (wrap64 ((t.length : Int) + 1) : Int).toNat ≤ 281474976710656 then ((some (List.replicate (wrap64 ((t.length : Int) + 1) : Int).toNat false : List Bool)).bind fun y354 => (if 0 < (y354.length : Int) then (Ai.l0 k p t (y354.set (0 : Int).toNat true) 0) else (none))) else (none)) else (none))
theorem join15 (k : Nat) (pat s : ByteArray) : Ai.f k pat s = (Cg.f pat).bind fun p => (Cg.f s).bind fun t => rest15 k p t := rfl
theorem match15 (pat s : ByteArray) (hp : pat.size ≤ 4398046511104) (hs : s.size ≤ 4398046511104) : TotP (fun r => r = globM pat s) (fun k => Ai.f k pat s) := by
 have hb : TotP (fun r => r = wild (foldR pat) (foldR s)) (fun k => rest15 k (foldR pat) (foldR s)) := body15 (foldR pat) (foldR s) (Nat.le_trans (foldR_len pat) hp) (Nat.le_trans (foldR_len s) hs)
 rw [← globM_wild] at hb
 have e : (fun k => Ai.f k pat s) = fun k => rest15 k (foldR pat) (foldR s) := funext (fun k => by rw [join15, fold15_some pat hp, fold15_some s hs, Option.bind_some, Option.bind_some])
 rw [e]
 exact hb
open Go.Proofs.YtdedmhmomoejkaaW.PrintMore
def rankI (b : Bool) : Int := if b then 1 else 0
def ordV (ty : Int) (a1 : Int) (a2 : ByteArray) (b1 : Int) (b2 : ByteArray) : Int := if ty = 1 then cmpI a1 b1 else if ty = 3 then cmpT a2 b2 else cmpI (rankI (a1 != 0)) (rankI (b1 != 0))
def holdsB (op n : Int) : Bool := if op = 1 then n == 0 else if op = 2 then n != 0 else if op = 3 then decide (n < 0) else if op = 4 then decide (n ≤ 0) else if op = 5 then decide (n > 0) else decide (n ≥ 0)
def truthI (b : Bool) : Int := if b = true then 1 else 0
def leafE (ty : Int) (c : S24) (x : S27) (m : Bool) : Int :=
  if x.f0 = 1 then 1 else if x.f0 = 3 then truthI c.f0 else if c.f0 = true then 2 else if x.f0 = 4 then truthI m else truthI (holdsB x.f2 (ordV ty c.f1 c.f2 x.f3.f1 x.f3.f2))
def s62r9.T : Bool × List (List Nat × List Nat) := (true, [([], []), ([0], [0]), ([], []), ([2], [2]), ([1, 3, 3], [1, 3]), ([4, 4], [4]), ([5, 5, 0, 1, 2, 3, 4, 5], [5])])
def s62r9.B : List Nat := [0, 1, 0, 4, 15, 31, 63]
theorem s62r9.tab : rtab .any (opsOf Try.f62 9) = s62r9.T := by kernel_rfl
theorem s62r9.bits : waitsOk s62r9.T.2 s62r9.B = true := by kernel_rfl
def s62r10.T : Bool × List (List Nat × List Nat) := (true, [([], []), ([0], [0]), ([], []), ([], []), ([3], [3]), ([], []), ([5], [5]), ([4, 6], [4, 6]), ([2, 7, 7], [2, 7]), ([1, 8, 8], [1, 8]), ([9, 9], [9]), ([10, 10, 0, 1, 2, 3, 4, 5, 6, 7, 8, 9, 10], [10])])
def s62r10.B : List Nat := [0, 1, 0, 0, 8, 0, 32, 120, 252, 511, 1023, 2047]
theorem s62r10.tab : rtab .any (opsOf Try.f62 10) = s62r10.T := by kernel_rfl
theorem s62r10.bits : waitsOk s62r10.T.2 s62r10.B = true := by kernel_rfl
def colI (l0 : List S64) (x : S27) : Int := idxOf (fun y : S64 => y.f0.toList == x.f1.toList) l0
def simpOk (l0 : List S64) (l1 : List S24) (x : S27) : Bool :=
  decide ((0 ≤ colI l0 x ∧ colI l0 x < l1.length) ∧ ((Bj l0 (colI l0 x)).f1 = 1 ∨ (Bj l0 (colI l0 x)).f1 = 2 ∨ (Bj l0 (colI l0 x)).f1 = 3) ∧ (x.f0 = 2 ∨ x.f0 = 3 ∨ x.f0 = 4)
    ∧ (x.f0 = 2 → x.f4 = (Bj l0 (colI l0 x)).f1 ∧ x.f3.f0 = false) ∧ (x.f0 = 4 → (Bj l0 (colI l0 x)).f1 = 3 ∧ x.f5.size ≤ 4398046511104 ∧ (Ax l1 (colI l0 x)).f2.size ≤ 4398046511104))
def simpV (l0 : List S64) (l1 : List S24) (x : S27) : Int := leafE (Bj l0 (colI l0 x)).f1 (Ax l1 (colI l0 x)) x (globM x.f5 (Ax l1 (colI l0 x)).f2)
def simpF (l0 : List S64) (l1 : List S24) (x : S27) : Option Int := if x.f0 = 1 then some 1 else if simpOk l0 l1 x = true then some (simpV l0 l1 x) else none
theorem typed_kind (l : List S64) (x : S27) (h : typedB l x = true) (hn : x.f1.toList ≠ []) : (x.f0 = 2 → (Bj l (colI l x)).f1 = x.f4) ∧ (x.f0 = 4 → (Bj l (colI l x)).f1 = 3) := by
 have h0 := typed_found l x h hn
 have hs := typed_some l x
 rw [h] at hs
 unfold Dc.f Bw.f at hs
 rw [if_neg hn] at hs
 simp only [Option.bind_some] at hs
 have hb := idxOf_lt (fun y : S64 => y.f0.toList == x.f1.toList) l
 unfold colI
 generalize idxOf (fun y : S64 => y.f0.toList == x.f1.toList) l = q at h0 hs hb ⊢
 have h1 : mx q 0 = q := by unfold mx; split <;> omega
 rw [h1, decide_eq_true h0, if_pos rfl] at hs
 refine ⟨fun h2 => ?_, fun h4 => ?_⟩
 ·(
 rw [if_pos h2, if_pos h0, if_pos hb] at hs
 exact beq_iff_eq.1 (Dp hs))
 ·(
 rw [if_neg (by omega), if_pos h4, if_pos h0, if_pos hb] at hs
 exact beq_iff_eq.1 (Dp hs))
theorem may_kind (ty : Int) (n a : Bool) (b : Int) (c : ByteArray) (h : Br.f ty n a b c = some true) : (ty = 1 ∨ ty = 2 ∨ ty = 3) ∧ (ty = 3 → c.size ≤ 4398046511104) := by
 have hsz : c.toList = [] → c.size = 0 := fun e => by rw [ByteArray.toList_eq] at e; have := data_length c; rw [e] at this; exact this.symm
 unfold Br.f at h
 by_cases ha : a = true
 ·(
 rw [if_pos ha] at h
 by_cases hn : n = true
 ·(
 rw [if_pos hn] at h
 by_cases h1 : ty ≥ 1
 ·(
 rw [if_pos h1] at h
 by_cases h3 : ty ≤ 3
 ·(
 rw [if_pos h3] at h
 have h := Dp h
 simp only [Bool.and_eq_true, List.isEmpty_iff] at h
 exact ⟨by omega, fun _ => by rw [hsz h.2.2]; omega⟩)
 ·rw [if_neg h3] at h; simp at h)
 ·rw [if_neg h1] at h; simp at h)
 ·rw [if_neg hn] at h; simp at h)
 ·(
 rw [if_neg ha] at h
 by_cases h1 : ty = 1
 ·exact ⟨.inl h1, fun h => by omega⟩
 ·(
 rw [if_neg h1] at h
 by_cases h2 : ty = 2
 ·exact ⟨.inr (.inl h2), fun h => by omega⟩
 ·(
 rw [if_neg h2] at h
 by_cases h3 : ty = 3
 ·(
 rw [if_pos h3] at h
 refine ⟨.inr (.inr h3), fun _ => ?_⟩
 by_cases hb : b = 0
 ·(
 rw [if_pos hb] at h
 have := of_decide_eq_true (Dp h)
 omega)
 ·rw [if_neg hb] at h; simp at h)
 ·rw [if_neg h3] at h; simp at h)))
def not3 (t : Int) : Int := if t = 2 then 2 else wrap64 (1 - t)
def loop3 (s out : Int) : List Int → Int
  | [] => out
  | t :: r => if t = s then s else if t = 2 then loop3 s 2 r else loop3 s out r
def ask3 (l0 : List S64) (l1 : List S24) : Nat → S27 → Int
  | 0, _ => 0
  | d + 1, x => if x.f0 = 5 then not3 (ask3 l0 l1 d (Al x.f6 0)) else if x.f0 = 6 then loop3 0 1 (x.f6.map (ask3 l0 l1 d)) else if x.f0 = 7 then loop3 1 0 (x.f6.map (ask3 l0 l1 d)) else if x.f0 = 1 then 1 else simpV l0 l1 x
theorem pat_len (x : S27) (hf : fieldsB x = true) (h4 : x.f0 = 4) : x.f5.size ≤ 40 := by
 rw [fieldsB_eq, Bool.and_eq_true] at hf
 have h := hf.2
 unfold opB at h
 rw [if_neg (by omega), if_neg (by omega), if_neg (by omega), if_pos h4] at h
 simp only [Bool.and_eq_true, decide_eq_true_eq] at h
 exact h.2
attribute [local go_sem] max2_int max_two
def Bz.f (a0 : Bool) : Option (Int) := if a0 = true then (some 1) else (some 0)
set_option maxHeartbeats 8000000 in
set_option maxRecDepth 100000 in
theorem Bz.calls (a0 : Bool) (r : Int) (w : World) (h : Bz.f a0 = some r) :
  Calls Try.prog 37 #[.bool a0] w fun e w' => e = .returned (.int .i64 r) ∧ Bp w w' := by
 have H : (if a0 = true then (some 1) else (some 0)) = some r := h
 clear h
 by_cases c2 : a0 = true
 rotate_left
 focus(
 replace c2 := Dq c2
 subst c2
 have H1 : (some 0) = some r := by rw [if_neg (show ¬ (false = true) by decide)] at H; exact H)
 rotate_right
 focus(
 subst c2
 have H1 : (some 1) = some r := by rw [if_pos rfl] at H; exact H)
 all_goals(
 clear H
 have H := H1
 clear H1
 obtain rfl := Dp H
 go_enter Try.func37, Try.ntmps37
 go_wp2
 go_ret
 exact ⟨by first | rfl | (simp; done) | (simp [*]; done), by repeat (first | exact Bp.refl _ | apply Bp.step)⟩)
def Cm.f (k : Nat) (a0_0 : Bool) (a0_1 : Int) (a0_2 : ByteArray) (a1 : Int) (a2_0 : Bool) (a2_1 : Int) (a2_2 : ByteArray) : Option (Bool) := (Bb.f k a0_0 a0_1 a0_2 a2_0 a2_1 a2_2).bind fun t347 => (if a1 = 1 then (some (t347 == 0)) else (if a1 = 2 then (some (t347 != 0)) else (if a1 = 3 then (some (decide (t347 < 0))) else (if a1 = 4 then (some (decide (t347 ≤ 0))) else (if a1 = 5 then (some (decide (t347 > 0))) else (some (decide (t347 ≥ 0))))))))
theorem Cm.mono : ∀ a0 a1 a2 a3 a4 a5 a6 k, LeO (Cm.f k a0 a1 a2 a3 a4 a5 a6) (Cm.f (k + 1) a0 a1 a2 a3 a4 a5 a6) := by
 intro a0 a1 a2 a3 a4 a5 a6 k
 unfold Cm.f
 repeat' first|(with_reducible first|exact Bb.mono _ _ _ _ _ _ _|exact LeO.refl _|exact LeO.none _|refine LeO.ite ?_ ?_|refine LeO.bind ?_ fun _=>?_)|exact Bb.mono _ _ _ _ _ _ _|exact LeO.none _|refine LeO.ite ?_ ?_|refine LeO.bind ?_ fun _=>?_
set_option maxHeartbeats 8000000 in
set_option maxRecDepth 100000 in
theorem Cm.calls (k : Nat) (a0_0 : Bool) (a0_1 : Int) (a0_2 : ByteArray) (a1 : Int) (a2_0 : Bool) (a2_1 : Int) (a2_2 : ByteArray) (r : Bool) (w : World) (h : Cm.f k a0_0 a0_1 a0_2 a1 a2_0 a2_1 a2_2 = some r) :
  Calls Try.prog 38 #[.agg #[.bool a0_0, .int .i64 a0_1, .string a0_2], .int .i64 a1, .agg #[.bool a2_0, .int .i64 a2_1, .string a2_2]] w fun e w' => e = .returned (.bool r) ∧ Below w.heap.size w w' := by
 have hu24 := Try.underlying24
 have HB := Aa.mk (Below.refl w.heap.size w)
 have H : ((Bb.f k a0_0 a0_1 a0_2 a2_0 a2_1 a2_2).bind fun t347 => (if a1 = 1 then (some (t347 == 0)) else (if a1 = 2 then (some (t347 != 0)) else (if a1 = 3 then (some (decide (t347 < 0))) else (if a1 = 4 then (some (decide (t347 ≤ 0))) else (if a1 = 5 then (some (decide (t347 > 0))) else (some (decide (t347 ≥ 0))))))))) = some r := h
 clear h
 replace H := Dn H
 obtain ⟨t347, A40, H⟩ := H
 replace H : (if a1 = 1 then (some (t347 == 0)) else (if a1 = 2 then (some (t347 != 0)) else (if a1 = 3 then (some (decide (t347 < 0))) else (if a1 = 4 then (some (decide (t347 ≤ 0))) else (if a1 = 5 then (some (decide (t347 > 0))) else (some (decide (t347 ≥ 0)))))))) = some r := H
 have A4 := Aa.mk A40
 clear A40
 by_cases c5 : a1 = 1
 rotate_left
 focus(
 rw [if_neg c5] at H
 have c5b0 : (a1 == 1) = false := Dj c5
 have c5b1 : (a1 != 1) = true := Dm c5
 by_cases c12 : a1 = 2
 rotate_left
 focus(
 rw [if_neg c12] at H
 have c12b0 : (a1 == 2) = false := Dj c12
 have c12b1 : (a1 != 2) = true := Dm c12
 by_cases c19 : a1 = 3
 rotate_left
 focus(
 rw [if_neg c19] at H
 have c19b0 : (a1 == 3) = false := Dj c19
 have c19b1 : (a1 != 3) = true := Dm c19
 by_cases c26 : a1 = 4
 rotate_left
 focus(
 rw [if_neg c26] at H
 have c26b0 : (a1 == 4) = false := Dj c26
 have c26b1 : (a1 != 4) = true := Dm c26
 by_cases c33 : a1 = 5
 rotate_left
 focus(
 rw [if_neg c33] at H
 have c33b0 : (a1 == 5) = false := Dj c33
 have c33b1 : (a1 != 5) = true := Dm c33)
 rotate_right
 focus(
 rw [if_pos c33] at H
 have c33b0 : (a1 == 5) = true := Dl c33
 have c33b1 : (a1 != 5) = false := Dk c33
 clear c33))
 rotate_right
 focus(
 rw [if_pos c26] at H
 have c26b0 : (a1 == 4) = true := Dl c26
 have c26b1 : (a1 != 4) = false := Dk c26
 clear c26))
 rotate_right
 focus(
 rw [if_pos c19] at H
 have c19b0 : (a1 == 3) = true := Dl c19
 have c19b1 : (a1 != 3) = false := Dk c19
 clear c19))
 rotate_right
 focus(
 rw [if_pos c12] at H
 have c12b0 : (a1 == 2) = true := Dl c12
 have c12b1 : (a1 != 2) = false := Dk c12
 clear c12))
 rotate_right
 focus(
 rw [if_pos c5] at H
 have c5b0 : (a1 == 1) = true := Dl c5
 have c5b1 : (a1 != 1) = false := Dk c5
 clear c5)
 all_goals(
 obtain rfl := Dp H
 go_enter Try.func38, Try.ntmps38
 go_wp2_with (first | (refine bx_ (N := 3) (cs := #[.bool a0_0, .int .i64 a0_1, .string a0_2]) (t := 24) ?_; intro gb345 hg w6 hbox hb; have BK345 := Aa.mk (hbox); have GW345 := ge_ HB hg; have GE345 := ge_ HB hg; replace HB := bs_ HB hb; clear hb hbox hg) | (refine bx_ (N := 5) (cs := #[.bool a2_0, .int .i64 a2_1, .string a2_2]) (t := 24) ?_; intro gb346 hg w7 hbox hb; have BK346 := Aa.mk (hbox); have GW346 := ge_ HB hg; have GE346 := ge_ HB hg; have NB345_346 := lt_ BK345 hg; have NB346_345 := gt_ BK345 hg; replace BK345 := bk_ BK345 hb; replace HB := bs_ HB hb; clear hb hbox hg; have hnb8 := NB345_346.out; have hnc8 := NB346_345.out; obtain ⟨C9_0, C9_1, C9_2⟩ := zc3_ BK345.out; obtain ⟨F9_0, F9_1, F9_2⟩ := zf3_ BK345.out; obtain ⟨C10_0, C10_1, C10_2⟩ := zc3_ BK346.out; obtain ⟨F10_0, F10_1, F10_2⟩ := zf3_ BK346.out) | ((with_reducible refine Aw (f := 35) rfl ?_); refine gl_ (some 10) rfl Try.func35 #[.agg #[.bool a0_0, .int .i64 a0_1, .string a0_2], .agg #[.bool a2_0, .int .i64 a2_1, .string a2_2]] ?_; (with_reducible refine (Bb.calls k a0_0 a0_1 a0_2 a2_0 a2_1 a2_2 t347 _ A4.out).mono ?_); rintro e w11 ⟨rfl, hb⟩; refine ⟨_, rfl, ?_⟩;  replace BK345 := bk_ BK345 hb; replace BK346 := bk_ BK346 hb; replace HB := bs_ HB hb; (try clear hb)))
 go_ret
 exact en_ HB)
mutual
def Ad.j0 : Nat → List (S64) → List (S24) → Int → ByteArray → Int → Bool → Int → ByteArray → Int → ByteArray → List (S27) → Bool → Int → ByteArray → Option (Int)
 | 0, _, _, _, _, _, _, _, _, _, _, _, _, _, _ => none
 | k + 1, x0, x2, x377000, x377001, x377002, x377003, x377004, x377005, x377006, x377007, x377008, x378000, x378001, x378002 => if x377000 = 1 then (some 1) else (if x377000 = 3 then ((Bz.f x378000).bind fun t380 => (some t380)) else (if x377000 = 2 then (if x378000 = true then (some 2) else ((Cm.f k x378000 x378001 x378002 x377002 x377003 x377004 x377005).bind fun t381 => ((Bz.f t381).bind fun t382 => (some t382)))) else (if x377000 = 4 then (if x378000 = true then (some 2) else ((Ai.f k x377007 x378002).bind fun t383 => ((Bz.f t383).bind fun t384 => (some t384)))) else (if x377000 = 5 then (if 0 < (x377008.length : Int) then ((Ad.f k x0 ((Al x377008 0).f0) ((Al x377008 0).f1) ((Al x377008 0).f2) ((Al x377008 0).f3.f0) ((Al x377008 0).f3.f1) ((Al x377008 0).f3.f2) ((Al x377008 0).f4) ((Al x377008 0).f5) ((Al x377008 0).f6) x2).bind fun t386 => (if t386 = 2 then (some 2) else (some (wrap64 (1 - t386))))) else (none)) else (Ad.l0 k x0 x2 false false false 0 x377000 x377001 x377002 x377003 x377004 x377005 x377006 x377007 x377008)))))
def Ad.l0 : Nat → List (S64) → List (S24) → Bool → Bool → Bool → Int → Int → ByteArray → Int → Bool → Int → ByteArray → Int → ByteArray → List (S27) → Option (Int)
 | 0, _, _, _, _, _, _, _, _, _, _, _, _, _, _, _ => none
 | k + 1, x0, x2, x9, x10, x11, x12, x377000, x377001, x377002, x377003, x377004, x377005, x377006, x377007, x377008 => if x12 < (x377008.length : Int) then (if 0 ≤ x12 then ((Ad.f k x0 ((Al x377008 x12).f0) ((Al x377008 x12).f1) ((Al x377008 x12).f2) ((Al x377008 x12).f3.f0) ((Al x377008 x12).f3.f1) ((Al x377008 x12).f3.f2) ((Al x377008 x12).f4) ((Al x377008 x12).f5) ((Al x377008 x12).f6) x2).bind fun t388 => (if x9 = true then (if x10 = true then (if x11 = true then (Ad.l0 k x0 x2 true true true (wrap64 (x12 + 1)) x377000 x377001 x377002 x377003 x377004 x377005 x377006 x377007 x377008) else (Ad.l0 k x0 x2 true true (t388 == 1) (wrap64 (x12 + 1)) x377000 x377001 x377002 x377003 x377004 x377005 x377006 x377007 x377008)) else (if x11 = true then (Ad.l0 k x0 x2 true (t388 == 2) true (wrap64 (x12 + 1)) x377000 x377001 x377002 x377003 x377004 x377005 x377006 x377007 x377008) else (Ad.l0 k x0 x2 true (t388 == 2) (t388 == 1) (wrap64 (x12 + 1)) x377000 x377001 x377002 x377003 x377004 x377005 x377006 x377007 x377008))) else (if x10 = true then (if x11 = true then (Ad.l0 k x0 x2 (t388 == 0) true true (wrap64 (x12 + 1)) x377000 x377001 x377002 x377003 x377004 x377005 x377006 x377007 x377008) else (Ad.l0 k x0 x2 (t388 == 0) true (t388 == 1) (wrap64 (x12 + 1)) x377000 x377001 x377002 x377003 x377004 x377005 x377006 x377007 x377008)) else (if x11 = true then (Ad.l0 k x0 x2 (t388 == 0) (t388 == 2) true (wrap64 (x12 + 1)) x377000 x377001 x377002 x377003 x377004 x377005 x377006 x377007 x377008) else (Ad.l0 k x0 x2 (t388 == 0) (t388 == 2) (t388 == 1) (wrap64 (x12 + 1)) x377000 x377001 x377002 x377003 x377004 x377005 x377006 x377007 x377008))))) else (none)) else (if x377000 = 6 then (Ad.j2 k x10 x11 x9 x377000 x377001 x377002 x377003 x377004 x377005 x377006 x377007 x377008) else (Ad.j2 k x10 x11 false x377000 x377001 x377002 x377003 x377004 x377005 x377006 x377007 x377008))
def Ad.j2 : Nat → Bool → Bool → Bool → Int → ByteArray → Int → Bool → Int → ByteArray → Int → ByteArray → List (S27) → Option (Int)
 | 0, _, _, _, _, _, _, _, _, _, _, _, _ => none
 | k + 1, x10, x11, x103, x377000, x377001, x377002, x377003, x377004, x377005, x377006, x377007, x377008 => if x103 = true then (some 0) else (if x377000 = 7 then (Ad.j3 k x10 x11 x377000 x377001 x377002 x377003 x377004 x377005 x377006 x377007 x377008) else (Ad.j3 k x10 false x377000 x377001 x377002 x377003 x377004 x377005 x377006 x377007 x377008))
def Ad.j3 : Nat → Bool → Bool → Int → ByteArray → Int → Bool → Int → ByteArray → Int → ByteArray → List (S27) → Option (Int)
 | 0, _, _, _, _, _, _, _, _, _, _, _ => none
 | k + 1, x10, x109, x377000, x377001, x377002, x377003, x377004, x377005, x377006, x377007, x377008 => if x109 = true then (some 1) else (if x10 = true then (some 2) else ((Bz.f (x377000 == 6)).bind fun t389 => (some t389)))
def Ad.f : Nat → List (S64) → Int → ByteArray → Int → Bool → Int → ByteArray → Int → ByteArray → List (S27) → List (S24) → Option (Int)
 | 0, _, _, _, _, _, _, _, _, _, _, _ => none
 | k + 1, l0, a1_0, a1_1, a1_2, a1_3, a1_4, a1_5, a1_6, a1_7, l1_8, l2 => if a1_1.toList = ([] : List UInt8) then (Ad.j0 k l0 l2 a1_0 a1_1 a1_2 a1_3 a1_4 a1_5 a1_6 a1_7 l1_8 false 0 (⟨#[]⟩ : ByteArray)) else ((Ay.f k l0 a1_1).bind fun t378 => (if 0 ≤ t378 then (if t378 < (l2.length : Int) then (Ad.j0 k l0 l2 a1_0 a1_1 a1_2 a1_3 a1_4 a1_5 a1_6 a1_7 l1_8 ((Ax l2 t378).f0) ((Ax l2 t378).f1) ((Ax l2 t378).f2)) else (none)) else (none)))
end
theorem Ad.mono_l : ∀ k, (∀ y0 y1 y2 y3 y4 y5 y6 y7 y8 y9 y10, LeO (Ad.f k y0 y1 y2 y3 y4 y5 y6 y7 y8 y9 y10) (Ad.f (k + 1) y0 y1 y2 y3 y4 y5 y6 y7 y8 y9 y10)) ∧ (∀ y0 y1 y2 y3 y4 y5 y6 y7 y8 y9 y10 y11 y12 y13, LeO (Ad.j0 k y0 y1 y2 y3 y4 y5 y6 y7 y8 y9 y10 y11 y12 y13) (Ad.j0 (k + 1) y0 y1 y2 y3 y4 y5 y6 y7 y8 y9 y10 y11 y12 y13)) ∧ (∀ y0 y1 y2 y3 y4 y5 y6 y7 y8 y9 y10 y11 y12 y13 y14, LeO (Ad.l0 k y0 y1 y2 y3 y4 y5 y6 y7 y8 y9 y10 y11 y12 y13 y14) (Ad.l0 (k + 1) y0 y1 y2 y3 y4 y5 y6 y7 y8 y9 y10 y11 y12 y13 y14)) ∧ (∀ y0 y1 y2 y3 y4 y5 y6 y7 y8 y9 y10 y11, LeO (Ad.j2 k y0 y1 y2 y3 y4 y5 y6 y7 y8 y9 y10 y11) (Ad.j2 (k + 1) y0 y1 y2 y3 y4 y5 y6 y7 y8 y9 y10 y11)) ∧ (∀ y0 y1 y2 y3 y4 y5 y6 y7 y8 y9 y10, LeO (Ad.j3 k y0 y1 y2 y3 y4 y5 y6 y7 y8 y9 y10) (Ad.j3 (k + 1) y0 y1 y2 y3 y4 y5 y6 y7 y8 y9 y10))
 | 0 => ⟨fun _ _ _ _ _ _ _ _ _ _ _ r h => by simp [Ad.f] at h, fun _ _ _ _ _ _ _ _ _ _ _ _ _ _ r h => by simp [Ad.j0] at h, fun _ _ _ _ _ _ _ _ _ _ _ _ _ _ _ r h => by simp [Ad.l0] at h, fun _ _ _ _ _ _ _ _ _ _ _ _ r h => by simp [Ad.j2] at h, fun _ _ _ _ _ _ _ _ _ _ _ r h => by simp [Ad.j3] at h⟩
 | k + 1 => by
  obtain ⟨ih0, ih1, ih2, ih3, ih4⟩ := Ad.mono_l k
  refine ⟨?_, ?_, ?_, ?_, ?_⟩
  focus intro y0 y1 y2 y3 y4 y5 y6 y7 y8 y9 y10;unfold Ad.f
  rotate_left
  focus intro y0 y1 y2 y3 y4 y5 y6 y7 y8 y9 y10 y11 y12 y13;unfold Ad.j0
  rotate_left
  focus intro y0 y1 y2 y3 y4 y5 y6 y7 y8 y9 y10 y11 y12 y13 y14;unfold Ad.l0
  rotate_left
  focus intro y0 y1 y2 y3 y4 y5 y6 y7 y8 y9 y10 y11;unfold Ad.j2
  rotate_left
  focus intro y0 y1 y2 y3 y4 y5 y6 y7 y8 y9 y10;unfold Ad.j3
  rotate_left
  all_goals repeat' first|(with_reducible first|exact ih0 _ _ _ _ _ _ _ _ _ _ _|exact ih1 _ _ _ _ _ _ _ _ _ _ _ _ _ _|exact ih2 _ _ _ _ _ _ _ _ _ _ _ _ _ _ _|exact ih3 _ _ _ _ _ _ _ _ _ _ _ _|exact ih4 _ _ _ _ _ _ _ _ _ _ _|exact Ay.mono _ _ _|exact Ai.mono _ _ _|exact Cm.mono _ _ _ _ _ _ _ _|exact LeO.refl _|exact LeO.none _|refine LeO.ite ?_ ?_|refine LeO.bind ?_ fun _=>?_)|exact ih0 _ _ _ _ _ _ _ _ _ _ _|exact ih1 _ _ _ _ _ _ _ _ _ _ _ _ _ _|exact ih2 _ _ _ _ _ _ _ _ _ _ _ _ _ _ _|exact ih3 _ _ _ _ _ _ _ _ _ _ _ _|exact ih4 _ _ _ _ _ _ _ _ _ _ _|exact Ay.mono _ _ _|exact Ai.mono _ _ _|exact Cm.mono _ _ _ _ _ _ _ _|exact LeO.none _|refine LeO.ite ?_ ?_|refine LeO.bind ?_ fun _=>?_
theorem Ad.mono : ∀ a0 a1 a2 a3 a4 a5 a6 a7 a8 a9 a10 k, LeO (Ad.f k a0 a1 a2 a3 a4 a5 a6 a7 a8 a9 a10) (Ad.f (k + 1) a0 a1 a2 a3 a4 a5 a6 a7 a8 a9 a10) := by
 intro a0 a1 a2 a3 a4 a5 a6 a7 a8 a9 a10 k
 obtain ⟨ih0, ih1, ih2, ih3, ih4⟩ := Ad.mono_l k
 exact ih0 a0 a1 a2 a3 a4 a5 a6 a7 a8 a9 a10
set_option maxHeartbeats 8000000 in
set_option maxRecDepth 100000 in
theorem Ad.calls (k : Nat) : ∀ (A0 : Option Addr) (c0 : Nat) (l0 : List (S64)) (a1_0 : Int) (a1_1 : ByteArray) (a1_2 : Int) (a1_3 : Bool) (a1_4 : Int) (a1_5 : ByteArray) (a1_6 : Int) (a1_7 : ByteArray) (A1_8 : Option Addr) (c1_8 : Nat) (l1_8 : List (S27)) (A2 : Option Addr) (c2 : Nat) (l2 : List (S24)) (r : Int) (w : World) (hr0 : Kd.C k64 w A0 l0.length l0) (hc0 : l0.length ≤ c0) (hr1_8 : Kd.C k27 w A1_8 l1_8.length l1_8) (hc1_8 : l1_8.length ≤ c1_8) (hr2 : Kd.C k24 w A2 l2.length l2) (hc2 : l2.length ≤ c2) (h : Ad.f k l0 a1_0 a1_1 a1_2 a1_3 a1_4 a1_5 a1_6 a1_7 l1_8 l2 = some r),
  Calls Try.prog 20 #[.slice A0 l0.length c0, .agg #[.int .i64 a1_0, .string a1_1, .int .i64 a1_2, .bool a1_3, .int .i64 a1_4, .string a1_5, .int .i64 a1_6, .string a1_7, .slice A1_8 l1_8.length c1_8], .slice A2 l2.length c2] w fun e w' => e = .returned (.int .i64 r) ∧ Below w.heap.size w w' := by
 induction k using Nat.strongRecOn with
 | _ k ih =>
 intro A0 c0 l0 a1_0 a1_1 a1_2 a1_3 a1_4 a1_5 a1_6 a1_7 A1_8 c1_8 l1_8 A2 c2 l2 r w hr0 hc0 hr1_8 hc1_8 hr2 hc2 h
 cases k with
 | zero => exact absurd h (by simp [Ad.f])
 | succ k =>
 simp only [Ad.f] at h
 have hu27 := Try.underlying27
 have hu24 := Try.underlying24
 have HR0 := Aa.mk hr0
 have HC0 := Aa.mk hc0
 clear hr0 hc0
 have HR1_8 := Aa.mk hr1_8
 have HC1_8 := Aa.mk hc1_8
 clear hr1_8 hc1_8
 have HR2 := Aa.mk hr2
 have HC2 := Aa.mk hc2
 clear hr2 hc2
 have HB := Aa.mk (Below.refl w.heap.size w)
 have H : (if a1_1.toList = ([] : List UInt8) then (Ad.j0 k l0 l2 a1_0 a1_1 a1_2 a1_3 a1_4 a1_5 a1_6 a1_7 l1_8 false 0 (⟨#[]⟩ : ByteArray)) else ((Ay.f k l0 a1_1).bind fun t378 => (if 0 ≤ t378 then (if t378 < (l2.length : Int) then (Ad.j0 k l0 l2 a1_0 a1_1 a1_2 a1_3 a1_4 a1_5 a1_6 a1_7 l1_8 ((Ax l2 t378).f0) ((Ax l2 t378).f1) ((Ax l2 t378).f2)) else (none)) else (none)))) = some r := h
 clear h
 have HC4 := Aa.mk H
 clear H
 go_enter Try.func20, Try.ntmps20
 go_upto_if 17 with (first | (refine bx_ (N := 4) (cs := #[.int .i64 a1_0, .string a1_1, .int .i64 a1_2, .bool a1_3, .int .i64 a1_4, .string a1_5, .int .i64 a1_6, .string a1_7, .slice A1_8 l1_8.length c1_8]) (t := 27) ?_; intro gb376 hg w5 hbox hb; have BK376 := Aa.mk (hbox); have GW376 := ge_ HB hg; have GE376 := ge_ HB hg; replace HB := bs_ HB hb; clear hb hbox hg) | (refine bx_ (N := 7) (cs := #[.bool false, .int .i64 0, .string (⟨#[]⟩ : ByteArray)]) (t := 24) ?_; intro gb377 hg w6 hbox hb; have BK377 := Aa.mk (hbox); have GW377 := ge_ HB hg; have GE377 := ge_ HB hg; have NB376_377 := lt_ BK376 hg; have NB377_376 := gt_ BK376 hg; replace BK376 := bk_ BK376 hb; replace HB := bs_ HB hb; clear hb hbox hg; have hnb7 := NB377_376.out; have hnc7 := NB376_377.out; obtain ⟨C8_0, C8_1, C8_2⟩ := zc3_ BK377.out; obtain ⟨F8_0, F8_1, F8_2⟩ := zf3_ BK377.out; obtain ⟨C9_0, C9_1, C9_2, C9_3, C9_4, C9_5, C9_6, C9_7, C9_8⟩ := zc9_ BK376.out; obtain ⟨F9_0, F9_1, F9_2, F9_3, F9_4, F9_5, F9_6, F9_7, F9_8⟩ := zf9_ BK376.out))
 (try simp only [Act.put, List.setIfInBounds_toArray, List.set_cons_zero, List.set_cons_succ])
 go_cut [] (fun wc => ∃ (kq : Nat) (x378000_3 : Bool) (x378001_3 : Int) (x378002_3 : ByteArray), Aa (Ad.j0 kq l0 l2 a1_0 a1_1 a1_2 a1_3 a1_4 a1_5 a1_6 a1_7 l1_8 x378000_3 x378001_3 x378002_3 = some r) ∧ Aa (kq ≤ k) ∧ Aa (wc.heap[gb376]? = some (.cells #[.int .i64 a1_0, .string a1_1, .int .i64 a1_2, .bool a1_3, .int .i64 a1_4, .string a1_5, .int .i64 a1_6, .string a1_7, (.slice A1_8 l1_8.length c1_8)] 27 (0, 0))) ∧ Aa (wc.heap[gb377]? = some (.cells #[.bool x378000_3, .int .i64 x378001_3, .string x378002_3] 24 (0, 0))) ∧ Aa (Below w.heap.size w wc))
 case first =>(
 have H := HC4.out
 clear HC4
 by_cases c10 : a1_1.toList = ([] : List UInt8)
 ·(
 rw [if_pos c10] at H
 have c10b0 : a1_1.toList.isEmpty = true := by simpa using c10
 have c10b1 : (a1_1.toList == ([] : List UInt8)) = true := Dl c10
 have c10b2 : (a1_1.toList != ([] : List UInt8)) = false := Dk c10
 have c10b3 : (a1_1.toList = ([] : List UInt8)) := c10
 clear c10
 (first | rw [c10b0] | (simp only [i64_w, i32_w]; rw [c10b0]) | skip)
 have H' := Aa.mk H
 clear H
 go_wp2
 go_meet
 case rel => exact ⟨_, _, _, _, H', ⟨by first | omega | exact Nat.le_refl _⟩, ⟨by (iterate 3 ((with_reducible repeat (first | refine Ag ?_ _ | refine Af ?_ | refine Ae ?_ _)); refine Bv ?_ NB376_377.out _)); (with_reducible repeat (first | refine Ag ?_ _ | refine Af ?_ | refine Ae ?_ _)); exact BK376.out⟩, ⟨by (with_reducible repeat (first | refine Ag ?_ _ | refine Af ?_ | refine Ae ?_ _)); apply Cf; (with_reducible repeat (first | refine Ag ?_ _ | refine Af ?_ | refine Ae ?_ _)); exact BK377.out⟩, ⟨by repeat (first | (with_reducible first | exact HB.out | apply Ak | apply Ah | apply Aj | refine Ao ?_ GE376.out | refine Ao ?_ GE377.out) | exact HB.out)⟩⟩)
 ·(
 rw [if_neg c10] at H
 have c10b0 : a1_1.toList.isEmpty = false := by simpa using c10
 have c10b1 : (a1_1.toList == ([] : List UInt8)) = false := Dj c10
 have c10b2 : (a1_1.toList != ([] : List UInt8)) = true := Dm c10
 have c10b3 : ¬ (a1_1.toList = ([] : List UInt8)) := c10
 (first | rw [c10b0] | (simp only [i64_w, i32_w]; rw [c10b0]) | skip)
 replace H := Dn H
 obtain ⟨t378, A110, H⟩ := H
 replace H : (if 0 ≤ t378 then (if t378 < (l2.length : Int) then (Ad.j0 k l0 l2 a1_0 a1_1 a1_2 a1_3 a1_4 a1_5 a1_6 a1_7 l1_8 ((Ax l2 t378).f0) ((Ax l2 t378).f1) ((Ax l2 t378).f2)) else (none)) else (none)) = some r := H
 have A11 := Aa.mk A110
 clear A110
 by_cases c12 : 0 ≤ t378
 ·(
 rw [if_pos c12] at H
 have c12b0 : decide (0 ≤ t378) = true := decide_eq_true c12
 clear c12
 by_cases c13 : t378 < (l2.length : Int)
 ·(
 rw [if_pos c13] at H
 have c13b0 : decide (t378 < (l2.length : Int)) = true := decide_eq_true c13
 clear c13
 have H' := Aa.mk H
 clear H
 have hnb14 := NB376_377.out
 have hnc14 := NB377_376.out
 obtain ⟨C15_0, C15_1, C15_2, C15_3, C15_4, C15_5, C15_6, C15_7, C15_8⟩ := cz9_ BK376.out
 obtain ⟨F15_0, F15_1, F15_2, F15_3, F15_4, F15_5, F15_6, F15_7, F15_8⟩ := fz9_ BK376.out
 go_wp2_with (first | ((with_reducible refine Aw (f := 36) rfl ?_); refine gl_ (some 22) rfl Try.func36 #[.slice A0 l0.length c0, .string a1_1] ?_; (with_reducible refine (Ay.calls k _ _ l0 a1_1 t378 _ ?side1 ?side2 A11.out).mono ?_); (case side1 => exact Kd.C_below HR0.out (by repeat (first | (with_reducible first | exact HB.out | apply Ak | apply Ah | apply Aj | refine Ao ?_ GE376.out | refine Ao ?_ GE377.out) | exact HB.out))); (case side2 => exact HC0.out); rintro e w' ⟨rfl, ⟨nd, rfl⟩⟩; refine ⟨_, rfl, ?_⟩; have p379 : 0 ≤ (t378 : Int) := dt_; have q379 : t378 < (l2.length : Int) := dt_; obtain ⟨ad379, e379, hx379_0, hx379_1, hx379_2⟩ := at_T24 HR2.out t378 p379 q379; cases e379; have hn379_0 : ad379.block ≠ gb377 := Nat.ne_of_lt (Nat.lt_of_lt_of_le (by have := World.block_lt_of_cell? _ _ hx379_0; first | rwa [add_block] at this | exact this) GW377.out); have hn379_1 : ad379.block ≠ gb377 := Nat.ne_of_lt (Nat.lt_of_lt_of_le (by have := World.block_lt_of_cell? _ _ hx379_0; first | rwa [add_block] at this | exact this) GW377.out); have hn379_2 : ad379.block ≠ gb377 := Nat.ne_of_lt (Nat.lt_of_lt_of_le (by have := World.block_lt_of_cell? _ _ hx379_0; first | rwa [add_block] at this | exact this) GW377.out); replace hx379_0 := hc_ HB hx379_0; replace hx379_1 := hc_ HB hx379_1; replace hx379_2 := hc_ HB hx379_2; replace hx379_0 := (cell_far (p := ⟨gb377, 0, none⟩) (by first | (rw [add_block]; exact hn379_0) | (show (Addr.add _ _).block ≠ _; rw [add_block]; exact hn379_0) | exact hn379_0) (.bool false)).trans hx379_0; replace hx379_1 := (cell_far (p := ⟨gb377, 0, none⟩) (by first | (rw [add_block]; exact hn379_0) | (show (Addr.add _ _).block ≠ _; rw [add_block]; exact hn379_0) | exact hn379_0) (.bool false)).trans hx379_1; replace hx379_2 := (cell_far (p := ⟨gb377, 0, none⟩) (by first | (rw [add_block]; exact hn379_0) | (show (Addr.add _ _).block ≠ _; rw [add_block]; exact hn379_0) | exact hn379_0) (.bool false)).trans hx379_2; replace hx379_0 := (cell_far (p := ⟨gb377, 1, none⟩) (by first | (rw [add_block]; exact hn379_1) | (show (Addr.add _ _).block ≠ _; rw [add_block]; exact hn379_1) | exact hn379_1) (.int .i64 0)).trans hx379_0; replace hx379_1 := (cell_far (p := ⟨gb377, 1, none⟩) (by first | (rw [add_block]; exact hn379_1) | (show (Addr.add _ _).block ≠ _; rw [add_block]; exact hn379_1) | exact hn379_1) (.int .i64 0)).trans hx379_1; replace hx379_2 := (cell_far (p := ⟨gb377, 1, none⟩) (by first | (rw [add_block]; exact hn379_1) | (show (Addr.add _ _).block ≠ _; rw [add_block]; exact hn379_1) | exact hn379_1) (.int .i64 0)).trans hx379_2; replace hx379_0 := (cell_far (p := ⟨gb377, 2, none⟩) (by first | (rw [add_block]; exact hn379_2) | (show (Addr.add _ _).block ≠ _; rw [add_block]; exact hn379_2) | exact hn379_2) (.string (⟨#[]⟩ : ByteArray))).trans hx379_0; replace hx379_1 := (cell_far (p := ⟨gb377, 2, none⟩) (by first | (rw [add_block]; exact hn379_2) | (show (Addr.add _ _).block ≠ _; rw [add_block]; exact hn379_2) | exact hn379_2) (.string (⟨#[]⟩ : ByteArray))).trans hx379_1; replace hx379_2 := (cell_far (p := ⟨gb377, 2, none⟩) (by first | (rw [add_block]; exact hn379_2) | (show (Addr.add _ _).block ≠ _; rw [add_block]; exact hn379_2) | exact hn379_2) (.string (⟨#[]⟩ : ByteArray))).trans hx379_2; clear hn379_0; clear hn379_1; clear hn379_2; replace p379 := eq_true p379; replace q379 := eq_true q379; obtain ⟨C16_0, C16_1, C16_2⟩ := zc3_ BK377.out; obtain ⟨F16_0, F16_1, F16_2⟩ := zf3_ BK377.out))
 go_meet
 case rel => exact ⟨_, _, _, _, H', ⟨by first | omega | exact Nat.le_refl _⟩, ⟨by (iterate 6 ((with_reducible repeat (first | refine Ag ?_ _ | refine Af ?_ | refine Ae ?_ _)); refine Bv ?_ NB376_377.out _)); (with_reducible repeat (first | refine Ag ?_ _ | refine Af ?_ | refine Ae ?_ _)); exact BK376.out⟩, ⟨by (with_reducible repeat (first | refine Ag ?_ _ | refine Af ?_ | refine Ae ?_ _)); apply Cf; (with_reducible repeat (first | refine Ag ?_ _ | refine Af ?_ | refine Ae ?_ _)); apply Cf; (with_reducible repeat (first | refine Ag ?_ _ | refine Af ?_ | refine Ae ?_ _)); exact BK377.out⟩, ⟨by repeat (first | (with_reducible first | exact HB.out | apply Ak | apply Ah | apply Aj | refine Ao ?_ GE376.out | refine Ao ?_ GE377.out) | exact HB.out)⟩⟩)
 ·(
 rw [if_neg c13] at H
 exact absurd H (by simp)))
 ·(
 rw [if_neg c12] at H
 exact absurd H (by simp))))
 case rest =>(
 clear HC4
 try clear c2
 try clear c10
 try clear c10b0
 try clear c10b1
 try clear c10b2
 try clear c12
 try clear c12b0
 try clear c13
 try clear c13b0
 try clear C15_0 C15_1 C15_2 C15_3 C15_4 C15_5 C15_6 C15_7 C15_8
 try clear C16_0 C16_1 C16_2
 try clear C8_0 C8_1 C8_2
 try clear C9_0 C9_1 C9_2 C9_3 C9_4 C9_5 C9_6 C9_7 C9_8
 try clear F15_0 F15_1 F15_2 F15_3 F15_4 F15_5 F15_6 F15_7 F15_8
 try clear F16_0 F16_1 F16_2
 try clear F8_0 F8_1 F8_2
 try clear F9_0 F9_1 F9_2 F9_3 F9_4 F9_5 F9_6 F9_7 F9_8
 try clear hx379_0
 try clear hx379_1
 try clear hx379_2
 try clear p379
 try clear q379
 obtain ⟨kq, x378000_3, x378001_3, x378002_3, HA, HJ3, BK376, BK377, HB⟩ := hcut
 cases kq with
 | zero => exact absurd HA.out (by simp [Ad.j0])
 | succ kj3 =>(
 have H := HA.out
 clear HA
 simp only [Ad.j0] at H
 by_cases c17 : a1_0 = 1
 ·(
 rw [if_pos c17] at H
 have c17b0 : (a1_0 == 1) = true := Dl c17
 have c17b1 : (a1_0 != 1) = false := Dk c17
 clear c17
 obtain rfl := Dp H
 have hnb18 := NB376_377.out
 have hnc18 := NB377_376.out
 obtain ⟨C19_0, C19_1, C19_2, C19_3, C19_4, C19_5, C19_6, C19_7, C19_8⟩ := cz9_ BK376.out
 obtain ⟨F19_0, F19_1, F19_2, F19_3, F19_4, F19_5, F19_6, F19_7, F19_8⟩ := fz9_ BK376.out
 go_wp2
 go_ret
 exact en_ HB)
 ·(
 rw [if_neg c17] at H
 have c17b0 : (a1_0 == 1) = false := Dj c17
 have c17b1 : (a1_0 != 1) = true := Dm c17
 by_cases c20 : a1_0 = 3
 ·(
 rw [if_pos c20] at H
 have c20b0 : (a1_0 == 3) = true := Dl c20
 have c20b1 : (a1_0 != 3) = false := Dk c20
 clear c20
 replace H := Dn H
 obtain ⟨t380, A210, H⟩ := H
 replace H : (some t380) = some r := H
 have A21 := Aa.mk A210
 clear A210
 obtain rfl := Dp H
 have hnb22 := NB376_377.out
 have hnc22 := NB377_376.out
 obtain ⟨C23_0, C23_1, C23_2, C23_3, C23_4, C23_5, C23_6, C23_7, C23_8⟩ := cz9_ BK376.out
 obtain ⟨F23_0, F23_1, F23_2, F23_3, F23_4, F23_5, F23_6, F23_7, F23_8⟩ := fz9_ BK376.out
 obtain ⟨C24_0, C24_1, C24_2⟩ := cz3_ BK377.out
 obtain ⟨F24_0, F24_1, F24_2⟩ := fz3_ BK377.out
 go_wp2_with (first | ((with_reducible refine Aw (f := 37) rfl ?_); refine gl_ (some 33) rfl Try.func37 #[.bool x378000_3] ?_; (with_reducible refine (Bz.calls x378000_3 t380 _ A21.out).mono ?_); rintro e w' ⟨rfl, ⟨nd, rfl⟩⟩; refine ⟨_, rfl, ?_⟩))
 go_ret
 exact en_ HB)
 ·(
 rw [if_neg c20] at H
 have c20b0 : (a1_0 == 3) = false := Dj c20
 have c20b1 : (a1_0 != 3) = true := Dm c20
 by_cases c25 : a1_0 = 2
 ·(
 rw [if_pos c25] at H
 have c25b0 : (a1_0 == 2) = true := Dl c25
 have c25b1 : (a1_0 != 2) = false := Dk c25
 clear c25
 by_cases c26 : x378000_3 = true
 ·(
 subst c26
 have H1 : (some 2) = some r := by rw [if_pos rfl] at H; exact H
 clear H
 have H := H1
 clear H1
 obtain rfl := Dp H
 have hnb27 := NB376_377.out
 have hnc27 := NB377_376.out
 obtain ⟨C28_0, C28_1, C28_2, C28_3, C28_4, C28_5, C28_6, C28_7, C28_8⟩ := cz9_ BK376.out
 obtain ⟨F28_0, F28_1, F28_2, F28_3, F28_4, F28_5, F28_6, F28_7, F28_8⟩ := fz9_ BK376.out
 obtain ⟨C29_0, C29_1, C29_2⟩ := cz3_ BK377.out
 obtain ⟨F29_0, F29_1, F29_2⟩ := fz3_ BK377.out
 go_wp2
 go_ret
 exact en_ HB)
 ·(
 replace c26 := Dq c26
 subst c26
 have H1 : ((Cm.f kj3 false x378001_3 x378002_3 a1_2 a1_3 a1_4 a1_5).bind fun t381 => ((Bz.f t381).bind fun t382 => (some t382))) = some r := by rw [if_neg (show ¬ (false = true) by decide)] at H; exact H
 clear H
 have H := H1
 clear H1
 replace H := Dn H
 obtain ⟨t381, A300, H⟩ := H
 replace H : ((Bz.f t381).bind fun t382 => (some t382)) = some r := H
 have A30 := Aa.mk A300
 clear A300
 replace H := Dn H
 obtain ⟨t382, A310, H⟩ := H
 replace H : (some t382) = some r := H
 have A31 := Aa.mk A310
 clear A310
 obtain rfl := Dp H
 have hnb32 := NB376_377.out
 have hnc32 := NB377_376.out
 obtain ⟨C33_0, C33_1, C33_2, C33_3, C33_4, C33_5, C33_6, C33_7, C33_8⟩ := cz9_ BK376.out
 obtain ⟨F33_0, F33_1, F33_2, F33_3, F33_4, F33_5, F33_6, F33_7, F33_8⟩ := fz9_ BK376.out
 obtain ⟨C34_0, C34_1, C34_2⟩ := cz3_ BK377.out
 obtain ⟨F34_0, F34_1, F34_2⟩ := fz3_ BK377.out
 go_wp2_with (first | ((with_reducible refine Aw (f := 38) rfl ?_); refine gl_ (some 43) rfl Try.func38 #[.agg #[.bool false, .int .i64 x378001_3, .string x378002_3], .int .i64 a1_2, .agg #[.bool a1_3, .int .i64 a1_4, .string a1_5]] ?_; (with_reducible refine (Cm.calls kj3 false x378001_3 x378002_3 a1_2 a1_3 a1_4 a1_5 t381 _ A30.out).mono ?_); rintro e w35 ⟨rfl, hb⟩; refine ⟨_, rfl, ?_⟩;  replace BK376 := bk_ BK376 hb; replace BK377 := bk_ BK377 hb; replace HB := bs_ HB hb; (try clear hb)) | ((with_reducible refine Aw (f := 37) rfl ?_); refine gl_ (some 44) rfl Try.func37 #[.bool t381] ?_; (with_reducible refine (Bz.calls t381 t382 _ A31.out).mono ?_); rintro e w' ⟨rfl, ⟨nd, rfl⟩⟩; refine ⟨_, rfl, ?_⟩))
 go_ret
 exact en_ HB))
 ·(
 rw [if_neg c25] at H
 have c25b0 : (a1_0 == 2) = false := Dj c25
 have c25b1 : (a1_0 != 2) = true := Dm c25
 by_cases c36 : a1_0 = 4
 ·(
 rw [if_pos c36] at H
 have c36b0 : (a1_0 == 4) = true := Dl c36
 have c36b1 : (a1_0 != 4) = false := Dk c36
 clear c36
 by_cases c37 : x378000_3 = true
 ·(
 subst c37
 have H1 : (some 2) = some r := by rw [if_pos rfl] at H; exact H
 clear H
 have H := H1
 clear H1
 obtain rfl := Dp H
 have hnb38 := NB376_377.out
 have hnc38 := NB377_376.out
 obtain ⟨C39_0, C39_1, C39_2, C39_3, C39_4, C39_5, C39_6, C39_7, C39_8⟩ := cz9_ BK376.out
 obtain ⟨F39_0, F39_1, F39_2, F39_3, F39_4, F39_5, F39_6, F39_7, F39_8⟩ := fz9_ BK376.out
 obtain ⟨C40_0, C40_1, C40_2⟩ := cz3_ BK377.out
 obtain ⟨F40_0, F40_1, F40_2⟩ := fz3_ BK377.out
 go_wp2
 go_ret
 exact en_ HB)
 ·(
 replace c37 := Dq c37
 subst c37
 have H1 : ((Ai.f kj3 a1_7 x378002_3).bind fun t383 => ((Bz.f t383).bind fun t384 => (some t384))) = some r := by rw [if_neg (show ¬ (false = true) by decide)] at H; exact H
 clear H
 have H := H1
 clear H1
 replace H := Dn H
 obtain ⟨t383, A410, H⟩ := H
 replace H : ((Bz.f t383).bind fun t384 => (some t384)) = some r := H
 have A41 := Aa.mk A410
 clear A410
 replace H := Dn H
 obtain ⟨t384, A420, H⟩ := H
 replace H : (some t384) = some r := H
 have A42 := Aa.mk A420
 clear A420
 obtain rfl := Dp H
 have hnb43 := NB376_377.out
 have hnc43 := NB377_376.out
 obtain ⟨C44_0, C44_1, C44_2, C44_3, C44_4, C44_5, C44_6, C44_7, C44_8⟩ := cz9_ BK376.out
 obtain ⟨F44_0, F44_1, F44_2, F44_3, F44_4, F44_5, F44_6, F44_7, F44_8⟩ := fz9_ BK376.out
 obtain ⟨C45_0, C45_1, C45_2⟩ := cz3_ BK377.out
 obtain ⟨F45_0, F45_1, F45_2⟩ := fz3_ BK377.out
 go_wp2_with (first | ((with_reducible refine Aw (f := 39) rfl ?_); refine gl_ (some 53) rfl Try.func39 #[.string a1_7, .string x378002_3] ?_; (with_reducible refine (Ai.calls kj3 a1_7 x378002_3 t383 _ A41.out).mono ?_); rintro e w46 ⟨rfl, hb⟩; refine ⟨_, rfl, ?_⟩;  replace BK376 := bk_ BK376 hb; replace BK377 := bk_ BK377 hb; replace HB := bs_ HB hb; (try clear hb)) | ((with_reducible refine Aw (f := 37) rfl ?_); refine gl_ (some 54) rfl Try.func37 #[.bool t383] ?_; (with_reducible refine (Bz.calls t383 t384 _ A42.out).mono ?_); rintro e w' ⟨rfl, ⟨nd, rfl⟩⟩; refine ⟨_, rfl, ?_⟩))
 go_ret
 exact en_ HB))
 ·(
 rw [if_neg c36] at H
 have c36b0 : (a1_0 == 4) = false := Dj c36
 have c36b1 : (a1_0 != 4) = true := Dm c36
 by_cases c47 : a1_0 = 5
 ·(
 rw [if_pos c47] at H
 have c47b0 : (a1_0 == 5) = true := Dl c47
 have c47b1 : (a1_0 != 5) = false := Dk c47
 clear c47
 by_cases c48 : 0 < (l1_8.length : Int)
 ·(
 rw [if_pos c48] at H
 have c48b0 : decide (0 < (l1_8.length : Int)) = true := decide_eq_true c48
 have c48b1 : decide (0 < l1_8.length) = true := decide_eq_true (by omega)
 clear c48
 replace H := Dn H
 obtain ⟨t386, A490, H⟩ := H
 replace H : (if t386 = 2 then (some 2) else (some (wrap64 (1 - t386)))) = some r := H
 have A49 := Aa.mk A490
 clear A490
 by_cases c50 : t386 = 2
 rotate_left
 focus(
 rw [if_neg c50] at H
 have c50b0 : (t386 == 2) = false := Dj c50
 have c50b1 : (t386 != 2) = true := Dm c50)
 rotate_right
 focus(
 rw [if_pos c50] at H
 have c50b0 : (t386 == 2) = true := Dl c50
 have c50b1 : (t386 != 2) = false := Dk c50
 clear c50)
 all_goals(
 obtain rfl := Dp H
 have hnb51 := NB376_377.out
 have hnc51 := NB377_376.out
 obtain ⟨C52_0, C52_1, C52_2, C52_3, C52_4, C52_5, C52_6, C52_7, C52_8⟩ := cz9_ BK376.out
 obtain ⟨F52_0, F52_1, F52_2, F52_3, F52_4, F52_5, F52_6, F52_7, F52_8⟩ := fz9_ BK376.out
 have p385 : 0 ≤ (0 : Int) := (by omega)
 have q385 : 0 < (l1_8.length : Int) := dt_
 obtain ⟨ad385, A385_8, c385_8, e385, hx385_0, hx385_1, hx385_2, hx385_3, hx385_4, hx385_5, hx385_6, hx385_7, hx385_8, hl385_8, hi385_8⟩ := at_T27 HR1_8.out 0 p385 q385
 cases e385
 have qi385 : (0 < l1_8.length) = True := eq_true (by omega)
 (try rw [show ((0 : Int)).toNat = 0 from rfl] at hx385_0)
 (try rw [show 0 * 9 = 0 from rfl] at hx385_0)
 (try rw [Addr.add_zero'] at hx385_0)
 (try rw [show ((0 : Int)).toNat = 0 from rfl] at hx385_1)
 (try rw [show 0 * 9 = 0 from rfl] at hx385_1)
 (try rw [Addr.add_zero'] at hx385_1)
 (try rw [show ((0 : Int)).toNat = 0 from rfl] at hx385_2)
 (try rw [show 0 * 9 = 0 from rfl] at hx385_2)
 (try rw [Addr.add_zero'] at hx385_2)
 (try rw [show ((0 : Int)).toNat = 0 from rfl] at hx385_3)
 (try rw [show 0 * 9 = 0 from rfl] at hx385_3)
 (try rw [Addr.add_zero'] at hx385_3)
 (try rw [show ((0 : Int)).toNat = 0 from rfl] at hx385_4)
 (try rw [show 0 * 9 = 0 from rfl] at hx385_4)
 (try rw [Addr.add_zero'] at hx385_4)
 (try rw [show ((0 : Int)).toNat = 0 from rfl] at hx385_5)
 (try rw [show 0 * 9 = 0 from rfl] at hx385_5)
 (try rw [Addr.add_zero'] at hx385_5)
 (try rw [show ((0 : Int)).toNat = 0 from rfl] at hx385_6)
 (try rw [show 0 * 9 = 0 from rfl] at hx385_6)
 (try rw [Addr.add_zero'] at hx385_6)
 (try rw [show ((0 : Int)).toNat = 0 from rfl] at hx385_7)
 (try rw [show 0 * 9 = 0 from rfl] at hx385_7)
 (try rw [Addr.add_zero'] at hx385_7)
 (try rw [show ((0 : Int)).toNat = 0 from rfl] at hx385_8)
 (try rw [show 0 * 9 = 0 from rfl] at hx385_8)
 (try rw [Addr.add_zero'] at hx385_8)
 replace hx385_0 := hc_ HB hx385_0
 replace hx385_1 := hc_ HB hx385_1
 replace hx385_2 := hc_ HB hx385_2
 replace hx385_3 := hc_ HB hx385_3
 replace hx385_4 := hc_ HB hx385_4
 replace hx385_5 := hc_ HB hx385_5
 replace hx385_6 := hc_ HB hx385_6
 replace hx385_7 := hc_ HB hx385_7
 replace hx385_8 := hc_ HB hx385_8
 have HR385_8 := Aa.mk hi385_8
 have HC385_8 := Aa.mk hl385_8
 clear hi385_8 hl385_8
 replace p385 := eq_true p385
 replace q385 := eq_true q385
 go_wp2_with (first | ((with_reducible refine Aw (f := 20) rfl ?_); refine gl_ (some 63) rfl Try.func20 #[.slice A0 l0.length c0, .agg #[.int .i64 ((Al l1_8 0).f0), .string ((Al l1_8 0).f1), .int .i64 ((Al l1_8 0).f2), .bool ((Al l1_8 0).f3.f0), .int .i64 ((Al l1_8 0).f3.f1), .string ((Al l1_8 0).f3.f2), .int .i64 ((Al l1_8 0).f4), .string ((Al l1_8 0).f5), .slice A385_8 ((Al l1_8 0).f6).length c385_8], .slice A2 l2.length c2] ?_; (with_reducible refine (ih kj3 (by have := HJ3.out; omega) _ _ l0 ((Al l1_8 0).f0) ((Al l1_8 0).f1) ((Al l1_8 0).f2) ((Al l1_8 0).f3.f0) ((Al l1_8 0).f3.f1) ((Al l1_8 0).f3.f2) ((Al l1_8 0).f4) ((Al l1_8 0).f5) _ _ ((Al l1_8 0).f6) _ _ l2 t386 _ ?side1 ?side2 ?side3 ?side4 ?side5 ?side6 A49.out).mono ?_); (case side1 => repeat (first | exact (Kd.C_below HR0.out HB.out) | (with_reducible refine Kd.C_alloc ?_ _) | (with_reducible refine Kd.C_drewN ?_ _) | (with_reducible refine Kd.C_drew ?_))); (case side2 => exact HC0.out); (case side3 => repeat (first | exact (Kd.C_below HR385_8.out HB.out) | (with_reducible refine Kd.C_alloc ?_ _) | (with_reducible refine Kd.C_drewN ?_ _) | (with_reducible refine Kd.C_drew ?_))); (case side4 => exact HC385_8.out); (case side5 => repeat (first | exact (Kd.C_below HR2.out HB.out) | (with_reducible refine Kd.C_alloc ?_ _) | (with_reducible refine Kd.C_drewN ?_ _) | (with_reducible refine Kd.C_drew ?_))); (case side6 => exact HC2.out); rintro e w53 ⟨rfl, hb⟩; refine ⟨_, rfl, ?_⟩;  replace BK376 := bk_ BK376 hb; replace BK377 := bk_ BK377 hb; replace HB := bs_ HB hb; (try clear hb)))
 go_ret
 exact en_ HB))
 ·(
 rw [if_neg c48] at H
 exact absurd H (by simp)))
 ·(
 rw [if_neg c47] at H
 have c47b0 : (a1_0 == 5) = false := Dj c47
 have c47b1 : (a1_0 != 5) = true := Dm c47
 have H' := Aa.mk H
 clear H
 have hnb57 := NB376_377.out
 have hnc57 := NB377_376.out
 obtain ⟨C58_0, C58_1, C58_2, C58_3, C58_4, C58_5, C58_6, C58_7, C58_8⟩ := cz9_ BK376.out
 obtain ⟨F58_0, F58_1, F58_2, F58_3, F58_4, F58_5, F58_6, F58_7, F58_8⟩ := fz9_ BK376.out
 go_wp2
 go_loopg [9, 10, 11, 12] kj3 (fun kq v9 v10 v11 v12 w' => ∃ (x9_2 : Bool) (x10_2 : Bool) (x11_2 : Bool) (x12_2 : Int), v9 = .bool x9_2 ∧ v10 = .bool x10_2 ∧ v11 = .bool x11_2 ∧ v12 = .int .i64 x12_2 ∧ Aa (Ad.l0 kq l0 l2 x9_2 x10_2 x11_2 x12_2 a1_0 a1_1 a1_2 a1_3 a1_4 a1_5 a1_6 a1_7 l1_8 = some r) ∧ Aa (kq ≤ kj3) ∧ Aa (w'.heap[gb376]? = some (.cells #[.int .i64 a1_0, .string a1_1, .int .i64 a1_2, .bool a1_3, .int .i64 a1_4, .string a1_5, .int .i64 a1_6, .string a1_7, (.slice A1_8 l1_8.length c1_8)] 27 (0, 0))) ∧ Aa (w'.heap[gb377]? = some (.cells #[.bool x378000_3, .int .i64 x378001_3, .string x378002_3] 24 (0, 0))) ∧ Aa (Below w.heap.size w w'))
 case atStart => exact ⟨_, _, _, _, (by first | rfl | (simp; done) | (simp [*]; done)), (by first | rfl | (simp; done) | (simp [*]; done)), (by first | rfl | (simp; done) | (simp [*]; done)), (by first | rfl | (simp; done) | (simp [*]; done)), H', ⟨Nat.le_refl _⟩, ⟨by (with_reducible repeat (first | refine Ag ?_ _ | refine Af ?_ | refine Ae ?_ _)); exact BK376.out⟩, ⟨by (with_reducible repeat (first | refine Ag ?_ _ | refine Af ?_ | refine Ae ?_ _)); exact BK377.out⟩, ⟨by repeat (first | (with_reducible first | exact HB.out | apply Ak | apply Ah | apply Aj | refine Ao ?_ GE376.out | refine Ao ?_ GE377.out) | exact HB.out)⟩⟩
 case round =>(
 clear H'
 try clear c2
 try clear c17
 try clear c17b0
 try clear c17b1
 try clear c20
 try clear c20b0
 try clear c20b1
 try clear c25
 try clear c25b0
 try clear c25b1
 try clear c26
 try clear c36
 try clear c36b0
 try clear c36b1
 try clear c37
 try clear c47
 try clear c47b0
 try clear c47b1
 try clear c48
 try clear c48b0
 try clear c48b1
 try clear c50
 try clear c50b0
 try clear c50b1
 try clear C15_0 C15_1 C15_2 C15_3 C15_4 C15_5 C15_6 C15_7 C15_8
 try clear C16_0 C16_1 C16_2
 try clear C19_0 C19_1 C19_2 C19_3 C19_4 C19_5 C19_6 C19_7 C19_8
 try clear C23_0 C23_1 C23_2 C23_3 C23_4 C23_5 C23_6 C23_7 C23_8
 try clear C24_0 C24_1 C24_2
 try clear C28_0 C28_1 C28_2 C28_3 C28_4 C28_5 C28_6 C28_7 C28_8
 try clear C29_0 C29_1 C29_2
 try clear C33_0 C33_1 C33_2 C33_3 C33_4 C33_5 C33_6 C33_7 C33_8
 try clear C34_0 C34_1 C34_2
 try clear C39_0 C39_1 C39_2 C39_3 C39_4 C39_5 C39_6 C39_7 C39_8
 try clear C40_0 C40_1 C40_2
 try clear C44_0 C44_1 C44_2 C44_3 C44_4 C44_5 C44_6 C44_7 C44_8
 try clear C45_0 C45_1 C45_2
 try clear C52_0 C52_1 C52_2 C52_3 C52_4 C52_5 C52_6 C52_7 C52_8
 try clear C55_0 C55_1 C55_2 C55_3 C55_4 C55_5 C55_6 C55_7 C55_8
 try clear C58_0 C58_1 C58_2 C58_3 C58_4 C58_5 C58_6 C58_7 C58_8
 try clear C8_0 C8_1 C8_2
 try clear C9_0 C9_1 C9_2 C9_3 C9_4 C9_5 C9_6 C9_7 C9_8
 try clear F15_0 F15_1 F15_2 F15_3 F15_4 F15_5 F15_6 F15_7 F15_8
 try clear F16_0 F16_1 F16_2
 try clear F19_0 F19_1 F19_2 F19_3 F19_4 F19_5 F19_6 F19_7 F19_8
 try clear F23_0 F23_1 F23_2 F23_3 F23_4 F23_5 F23_6 F23_7 F23_8
 try clear F24_0 F24_1 F24_2
 try clear F28_0 F28_1 F28_2 F28_3 F28_4 F28_5 F28_6 F28_7 F28_8
 try clear F29_0 F29_1 F29_2
 try clear F33_0 F33_1 F33_2 F33_3 F33_4 F33_5 F33_6 F33_7 F33_8
 try clear F34_0 F34_1 F34_2
 try clear F39_0 F39_1 F39_2 F39_3 F39_4 F39_5 F39_6 F39_7 F39_8
 try clear F40_0 F40_1 F40_2
 try clear F44_0 F44_1 F44_2 F44_3 F44_4 F44_5 F44_6 F44_7 F44_8
 try clear F45_0 F45_1 F45_2
 try clear F52_0 F52_1 F52_2 F52_3 F52_4 F52_5 F52_6 F52_7 F52_8
 try clear F55_0 F55_1 F55_2 F55_3 F55_4 F55_5 F55_6 F55_7 F55_8
 try clear F58_0 F58_1 F58_2 F58_3 F58_4 F58_5 F58_6 F58_7 F58_8
 try clear F8_0 F8_1 F8_2
 try clear F9_0 F9_1 F9_2 F9_3 F9_4 F9_5 F9_6 F9_7 F9_8
 try clear hx385_0
 try clear hx385_1
 try clear hx385_2
 try clear hx385_3
 try clear hx385_4
 try clear hx385_5
 try clear hx385_6
 try clear hx385_7
 try clear hx385_8
 try clear p385
 try clear q385
 obtain ⟨x9_2, x10_2, x11_2, x12_2, rfl, rfl, rfl, rfl, HA, HK2, BK376, BK377, HB⟩ := hrel
 cases gk with
 | zero => exact absurd HA.out (by simp [Ad.l0])
 | succ k2 =>(
 have H := HA.out
 clear HA
 simp only [Ad.l0] at H
 by_cases c59 : x12_2 < (l1_8.length : Int)
 ·(
 rw [if_pos c59] at H
 have c59b0 : decide (x12_2 < (l1_8.length : Int)) = true := decide_eq_true c59
 clear c59
 by_cases c60 : 0 ≤ x12_2
 ·(
 rw [if_pos c60] at H
 have c60b0 : decide (0 ≤ x12_2) = true := decide_eq_true c60
 clear c60
 replace H := Dn H
 obtain ⟨t388, A610, H⟩ := H
 replace H : (if x9_2 = true then (if x10_2 = true then (if x11_2 = true then (Ad.l0 k2 l0 l2 true true true (wrap64 (x12_2 + 1)) a1_0 a1_1 a1_2 a1_3 a1_4 a1_5 a1_6 a1_7 l1_8) else (Ad.l0 k2 l0 l2 true true (t388 == 1) (wrap64 (x12_2 + 1)) a1_0 a1_1 a1_2 a1_3 a1_4 a1_5 a1_6 a1_7 l1_8)) else (if x11_2 = true then (Ad.l0 k2 l0 l2 true (t388 == 2) true (wrap64 (x12_2 + 1)) a1_0 a1_1 a1_2 a1_3 a1_4 a1_5 a1_6 a1_7 l1_8) else (Ad.l0 k2 l0 l2 true (t388 == 2) (t388 == 1) (wrap64 (x12_2 + 1)) a1_0 a1_1 a1_2 a1_3 a1_4 a1_5 a1_6 a1_7 l1_8))) else (if x10_2 = true then (if x11_2 = true then (Ad.l0 k2 l0 l2 (t388 == 0) true true (wrap64 (x12_2 + 1)) a1_0 a1_1 a1_2 a1_3 a1_4 a1_5 a1_6 a1_7 l1_8) else (Ad.l0 k2 l0 l2 (t388 == 0) true (t388 == 1) (wrap64 (x12_2 + 1)) a1_0 a1_1 a1_2 a1_3 a1_4 a1_5 a1_6 a1_7 l1_8)) else (if x11_2 = true then (Ad.l0 k2 l0 l2 (t388 == 0) (t388 == 2) true (wrap64 (x12_2 + 1)) a1_0 a1_1 a1_2 a1_3 a1_4 a1_5 a1_6 a1_7 l1_8) else (Ad.l0 k2 l0 l2 (t388 == 0) (t388 == 2) (t388 == 1) (wrap64 (x12_2 + 1)) a1_0 a1_1 a1_2 a1_3 a1_4 a1_5 a1_6 a1_7 l1_8)))) = some r := H
 have A61 := Aa.mk A610
 clear A610
 by_cases c62 : x9_2 = true
 rotate_left
 focus(
 replace c62 := Dq c62
 subst c62
 have H1 : (if x10_2 = true then (if x11_2 = true then (Ad.l0 k2 l0 l2 (t388 == 0) true true (wrap64 (x12_2 + 1)) a1_0 a1_1 a1_2 a1_3 a1_4 a1_5 a1_6 a1_7 l1_8) else (Ad.l0 k2 l0 l2 (t388 == 0) true (t388 == 1) (wrap64 (x12_2 + 1)) a1_0 a1_1 a1_2 a1_3 a1_4 a1_5 a1_6 a1_7 l1_8)) else (if x11_2 = true then (Ad.l0 k2 l0 l2 (t388 == 0) (t388 == 2) true (wrap64 (x12_2 + 1)) a1_0 a1_1 a1_2 a1_3 a1_4 a1_5 a1_6 a1_7 l1_8) else (Ad.l0 k2 l0 l2 (t388 == 0) (t388 == 2) (t388 == 1) (wrap64 (x12_2 + 1)) a1_0 a1_1 a1_2 a1_3 a1_4 a1_5 a1_6 a1_7 l1_8))) = some r := by rw [if_neg (show ¬ (false = true) by decide)] at H; exact H
 clear H
 have H := H1
 clear H1
 by_cases c78 : x10_2 = true
 rotate_left
 focus(
 replace c78 := Dq c78
 subst c78
 have H1 : (if x11_2 = true then (Ad.l0 k2 l0 l2 (t388 == 0) (t388 == 2) true (wrap64 (x12_2 + 1)) a1_0 a1_1 a1_2 a1_3 a1_4 a1_5 a1_6 a1_7 l1_8) else (Ad.l0 k2 l0 l2 (t388 == 0) (t388 == 2) (t388 == 1) (wrap64 (x12_2 + 1)) a1_0 a1_1 a1_2 a1_3 a1_4 a1_5 a1_6 a1_7 l1_8)) = some r := by rw [if_neg (show ¬ (false = true) by decide)] at H; exact H
 clear H
 have H := H1
 clear H1
 by_cases c86 : x11_2 = true
 rotate_left
 focus(
 replace c86 := Dq c86
 subst c86
 have H1 : (Ad.l0 k2 l0 l2 (t388 == 0) (t388 == 2) (t388 == 1) (wrap64 (x12_2 + 1)) a1_0 a1_1 a1_2 a1_3 a1_4 a1_5 a1_6 a1_7 l1_8) = some r := by rw [if_neg (show ¬ (false = true) by decide)] at H; exact H)
 rotate_right
 focus(
 subst c86
 have H1 : (Ad.l0 k2 l0 l2 (t388 == 0) (t388 == 2) true (wrap64 (x12_2 + 1)) a1_0 a1_1 a1_2 a1_3 a1_4 a1_5 a1_6 a1_7 l1_8) = some r := by rw [if_pos rfl] at H; exact H))
 rotate_right
 focus(
 subst c78
 have H1 : (if x11_2 = true then (Ad.l0 k2 l0 l2 (t388 == 0) true true (wrap64 (x12_2 + 1)) a1_0 a1_1 a1_2 a1_3 a1_4 a1_5 a1_6 a1_7 l1_8) else (Ad.l0 k2 l0 l2 (t388 == 0) true (t388 == 1) (wrap64 (x12_2 + 1)) a1_0 a1_1 a1_2 a1_3 a1_4 a1_5 a1_6 a1_7 l1_8)) = some r := by rw [if_pos rfl] at H; exact H
 clear H
 have H := H1
 clear H1
 by_cases c79 : x11_2 = true
 rotate_left
 focus(
 replace c79 := Dq c79
 subst c79
 have H1 : (Ad.l0 k2 l0 l2 (t388 == 0) true (t388 == 1) (wrap64 (x12_2 + 1)) a1_0 a1_1 a1_2 a1_3 a1_4 a1_5 a1_6 a1_7 l1_8) = some r := by rw [if_neg (show ¬ (false = true) by decide)] at H; exact H)
 rotate_right
 focus(
 subst c79
 have H1 : (Ad.l0 k2 l0 l2 (t388 == 0) true true (wrap64 (x12_2 + 1)) a1_0 a1_1 a1_2 a1_3 a1_4 a1_5 a1_6 a1_7 l1_8) = some r := by rw [if_pos rfl] at H; exact H)))
 rotate_right
 focus(
 subst c62
 have H1 : (if x10_2 = true then (if x11_2 = true then (Ad.l0 k2 l0 l2 true true true (wrap64 (x12_2 + 1)) a1_0 a1_1 a1_2 a1_3 a1_4 a1_5 a1_6 a1_7 l1_8) else (Ad.l0 k2 l0 l2 true true (t388 == 1) (wrap64 (x12_2 + 1)) a1_0 a1_1 a1_2 a1_3 a1_4 a1_5 a1_6 a1_7 l1_8)) else (if x11_2 = true then (Ad.l0 k2 l0 l2 true (t388 == 2) true (wrap64 (x12_2 + 1)) a1_0 a1_1 a1_2 a1_3 a1_4 a1_5 a1_6 a1_7 l1_8) else (Ad.l0 k2 l0 l2 true (t388 == 2) (t388 == 1) (wrap64 (x12_2 + 1)) a1_0 a1_1 a1_2 a1_3 a1_4 a1_5 a1_6 a1_7 l1_8))) = some r := by rw [if_pos rfl] at H; exact H
 clear H
 have H := H1
 clear H1
 by_cases c63 : x10_2 = true
 rotate_left
 focus(
 replace c63 := Dq c63
 subst c63
 have H1 : (if x11_2 = true then (Ad.l0 k2 l0 l2 true (t388 == 2) true (wrap64 (x12_2 + 1)) a1_0 a1_1 a1_2 a1_3 a1_4 a1_5 a1_6 a1_7 l1_8) else (Ad.l0 k2 l0 l2 true (t388 == 2) (t388 == 1) (wrap64 (x12_2 + 1)) a1_0 a1_1 a1_2 a1_3 a1_4 a1_5 a1_6 a1_7 l1_8)) = some r := by rw [if_neg (show ¬ (false = true) by decide)] at H; exact H
 clear H
 have H := H1
 clear H1
 by_cases c71 : x11_2 = true
 rotate_left
 focus(
 replace c71 := Dq c71
 subst c71
 have H1 : (Ad.l0 k2 l0 l2 true (t388 == 2) (t388 == 1) (wrap64 (x12_2 + 1)) a1_0 a1_1 a1_2 a1_3 a1_4 a1_5 a1_6 a1_7 l1_8) = some r := by rw [if_neg (show ¬ (false = true) by decide)] at H; exact H)
 rotate_right
 focus(
 subst c71
 have H1 : (Ad.l0 k2 l0 l2 true (t388 == 2) true (wrap64 (x12_2 + 1)) a1_0 a1_1 a1_2 a1_3 a1_4 a1_5 a1_6 a1_7 l1_8) = some r := by rw [if_pos rfl] at H; exact H))
 rotate_right
 focus(
 subst c63
 have H1 : (if x11_2 = true then (Ad.l0 k2 l0 l2 true true true (wrap64 (x12_2 + 1)) a1_0 a1_1 a1_2 a1_3 a1_4 a1_5 a1_6 a1_7 l1_8) else (Ad.l0 k2 l0 l2 true true (t388 == 1) (wrap64 (x12_2 + 1)) a1_0 a1_1 a1_2 a1_3 a1_4 a1_5 a1_6 a1_7 l1_8)) = some r := by rw [if_pos rfl] at H; exact H
 clear H
 have H := H1
 clear H1
 by_cases c64 : x11_2 = true
 rotate_left
 focus(
 replace c64 := Dq c64
 subst c64
 have H1 : (Ad.l0 k2 l0 l2 true true (t388 == 1) (wrap64 (x12_2 + 1)) a1_0 a1_1 a1_2 a1_3 a1_4 a1_5 a1_6 a1_7 l1_8) = some r := by rw [if_neg (show ¬ (false = true) by decide)] at H; exact H)
 rotate_right
 focus(
 subst c64
 have H1 : (Ad.l0 k2 l0 l2 true true true (wrap64 (x12_2 + 1)) a1_0 a1_1 a1_2 a1_3 a1_4 a1_5 a1_6 a1_7 l1_8) = some r := by rw [if_pos rfl] at H; exact H)))
 all_goals(
 clear H
 have H := H1
 clear H1
 have H' := Aa.mk H
 clear H
 have hnb65 := NB376_377.out
 have hnc65 := NB377_376.out
 obtain ⟨C66_0, C66_1, C66_2, C66_3, C66_4, C66_5, C66_6, C66_7, C66_8⟩ := cz9_ BK376.out
 obtain ⟨F66_0, F66_1, F66_2, F66_3, F66_4, F66_5, F66_6, F66_7, F66_8⟩ := fz9_ BK376.out
 have p387 : 0 ≤ (x12_2 : Int) := dt_
 have q387 : x12_2 < (l1_8.length : Int) := dt_
 obtain ⟨ad387, A387_8, c387_8, e387, hx387_0, hx387_1, hx387_2, hx387_3, hx387_4, hx387_5, hx387_6, hx387_7, hx387_8, hl387_8, hi387_8⟩ := at_T27 HR1_8.out x12_2 p387 q387
 cases e387
 replace hx387_0 := hc_ HB hx387_0
 replace hx387_1 := hc_ HB hx387_1
 replace hx387_2 := hc_ HB hx387_2
 replace hx387_3 := hc_ HB hx387_3
 replace hx387_4 := hc_ HB hx387_4
 replace hx387_5 := hc_ HB hx387_5
 replace hx387_6 := hc_ HB hx387_6
 replace hx387_7 := hc_ HB hx387_7
 replace hx387_8 := hc_ HB hx387_8
 have HR387_8 := Aa.mk hi387_8
 have HC387_8 := Aa.mk hl387_8
 clear hi387_8 hl387_8
 replace p387 := eq_true p387
 replace q387 := eq_true q387
 go_wp2_with (first | ((with_reducible refine Aw (f := 20) rfl ?_); refine gl_ (some 82) rfl Try.func20 #[.slice A0 l0.length c0, .agg #[.int .i64 ((Al l1_8 x12_2).f0), .string ((Al l1_8 x12_2).f1), .int .i64 ((Al l1_8 x12_2).f2), .bool ((Al l1_8 x12_2).f3.f0), .int .i64 ((Al l1_8 x12_2).f3.f1), .string ((Al l1_8 x12_2).f3.f2), .int .i64 ((Al l1_8 x12_2).f4), .string ((Al l1_8 x12_2).f5), .slice A387_8 ((Al l1_8 x12_2).f6).length c387_8], .slice A2 l2.length c2] ?_; (with_reducible refine (ih k2 (by have := HJ3.out; have := HK2.out; omega) _ _ l0 ((Al l1_8 x12_2).f0) ((Al l1_8 x12_2).f1) ((Al l1_8 x12_2).f2) ((Al l1_8 x12_2).f3.f0) ((Al l1_8 x12_2).f3.f1) ((Al l1_8 x12_2).f3.f2) ((Al l1_8 x12_2).f4) ((Al l1_8 x12_2).f5) _ _ ((Al l1_8 x12_2).f6) _ _ l2 t388 _ ?side1 ?side2 ?side3 ?side4 ?side5 ?side6 A61.out).mono ?_); (case side1 => repeat (first | exact (Kd.C_below HR0.out HB.out) | (with_reducible refine Kd.C_alloc ?_ _) | (with_reducible refine Kd.C_drewN ?_ _) | (with_reducible refine Kd.C_drew ?_))); (case side2 => exact HC0.out); (case side3 => repeat (first | exact (Kd.C_below HR387_8.out HB.out) | (with_reducible refine Kd.C_alloc ?_ _) | (with_reducible refine Kd.C_drewN ?_ _) | (with_reducible refine Kd.C_drew ?_))); (case side4 => exact HC387_8.out); (case side5 => repeat (first | exact (Kd.C_below HR2.out HB.out) | (with_reducible refine Kd.C_alloc ?_ _) | (with_reducible refine Kd.C_drewN ?_ _) | (with_reducible refine Kd.C_drew ?_))); (case side6 => exact HC2.out); rintro e w67 ⟨rfl, hb⟩; refine ⟨_, rfl, ?_⟩;  replace BK376 := bk_ BK376 hb; replace BK377 := bk_ BK377 hb; replace HB := bs_ HB hb; (try clear hb)))
 go_roundg k2
 case measure => have := HJ3.out; have := HK2.out; omega
 case rel => exact ⟨_, _, _, _, (by first | rfl | (simp; done) | (simp [*]; done)), (by first | rfl | (simp; done) | (simp [*]; done)), (by first | rfl | (simp; done) | (simp [*]; done)), (by first | rfl | (simp; done) | (simp [*]; done)), H', ⟨by have := HJ3.out; have := HK2.out; omega⟩, ⟨by (with_reducible repeat (first | refine Ag ?_ _ | refine Af ?_ | refine Ae ?_ _)); exact BK376.out⟩, ⟨by (with_reducible repeat (first | refine Ag ?_ _ | refine Af ?_ | refine Ae ?_ _)); exact BK377.out⟩, ⟨by repeat (first | (with_reducible first | exact HB.out | apply Ak | apply Ah | apply Aj | refine Ao ?_ GE376.out | refine Ao ?_ GE377.out) | exact HB.out)⟩⟩))
 ·(
 rw [if_neg c60] at H
 exact absurd H (by simp)))
 ·(
 rw [if_neg c59] at H
 have c59b0 : decide (x12_2 < (l1_8.length : Int)) = false := decide_eq_false c59
 clear c59
 have HC93 := Aa.mk H
 clear H
 have hnb94 := NB376_377.out
 have hnc94 := NB377_376.out
 obtain ⟨C95_0, C95_1, C95_2, C95_3, C95_4, C95_5, C95_6, C95_7, C95_8⟩ := cz9_ BK376.out
 obtain ⟨F95_0, F95_1, F95_2, F95_3, F95_4, F95_5, F95_6, F95_7, F95_8⟩ := fz9_ BK376.out
 go_upto_region 28 with (fail)
 go_cut [103] (fun v103 wc => ∃ (kq : Nat) (x103_92 : Bool), v103 = .bool x103_92 ∧ Aa (Ad.j2 kq x10_2 x11_2 x103_92 a1_0 a1_1 a1_2 a1_3 a1_4 a1_5 a1_6 a1_7 l1_8 = some r) ∧ Aa (kq ≤ k2) ∧ Aa (wc.heap[gb376]? = some (.cells #[.int .i64 a1_0, .string a1_1, .int .i64 a1_2, .bool a1_3, .int .i64 a1_4, .string a1_5, .int .i64 a1_6, .string a1_7, (.slice A1_8 l1_8.length c1_8)] 27 (0, 0))) ∧ Aa (wc.heap[gb377]? = some (.cells #[.bool x378000_3, .int .i64 x378001_3, .string x378002_3] 24 (0, 0))) ∧ Aa (Below w.heap.size w wc))
 case first =>(
 have H := HC93.out
 clear HC93
 by_cases c96 : a1_0 = 6
 rotate_left
 focus(
 rw [if_neg c96] at H
 have c96b0 : (a1_0 == 6) = false := Dj c96
 have c96b1 : (a1_0 != 6) = true := Dm c96)
 rotate_right
 focus(
 rw [if_pos c96] at H
 have c96b0 : (a1_0 == 6) = true := Dl c96
 have c96b1 : (a1_0 != 6) = false := Dk c96
 clear c96)
 all_goals(
 (first | rw [c96b0] | (simp only [i64_w, i32_w]; rw [c96b0]) | skip)
 have H' := Aa.mk H
 clear H
 have hnb97 := NB376_377.out
 have hnc97 := NB377_376.out
 obtain ⟨C98_0, C98_1, C98_2, C98_3, C98_4, C98_5, C98_6, C98_7, C98_8⟩ := cz9_ BK376.out
 obtain ⟨F98_0, F98_1, F98_2, F98_3, F98_4, F98_5, F98_6, F98_7, F98_8⟩ := fz9_ BK376.out
 go_wp2
 go_meet
 case rel => exact ⟨_, _, (by first | rfl | (simp; done) | (simp [*]; done)), H', ⟨by have := HJ3.out; have := HK2.out; first | omega | exact Nat.le_refl _⟩, ⟨by (with_reducible repeat (first | refine Ag ?_ _ | refine Af ?_ | refine Ae ?_ _)); exact BK376.out⟩, ⟨by (with_reducible repeat (first | refine Ag ?_ _ | refine Af ?_ | refine Ae ?_ _)); exact BK377.out⟩, ⟨by repeat (first | (with_reducible first | exact HB.out | apply Ak | apply Ah | apply Aj | refine Ao ?_ GE376.out | refine Ao ?_ GE377.out) | exact HB.out)⟩⟩))
 case rest =>(
 clear HC93
 try clear c2
 try clear c59
 try clear c59b0
 try clear c60
 try clear c60b0
 try clear c62
 try clear c63
 try clear c64
 try clear c71
 try clear c78
 try clear c79
 try clear c86
 try clear c96
 try clear c96b0
 try clear c96b1
 try clear C100_0 C100_1 C100_2 C100_3 C100_4 C100_5 C100_6 C100_7 C100_8
 try clear C66_0 C66_1 C66_2 C66_3 C66_4 C66_5 C66_6 C66_7 C66_8
 try clear C69_0 C69_1 C69_2 C69_3 C69_4 C69_5 C69_6 C69_7 C69_8
 try clear C73_0 C73_1 C73_2 C73_3 C73_4 C73_5 C73_6 C73_7 C73_8
 try clear C76_0 C76_1 C76_2 C76_3 C76_4 C76_5 C76_6 C76_7 C76_8
 try clear C81_0 C81_1 C81_2 C81_3 C81_4 C81_5 C81_6 C81_7 C81_8
 try clear C84_0 C84_1 C84_2 C84_3 C84_4 C84_5 C84_6 C84_7 C84_8
 try clear C88_0 C88_1 C88_2 C88_3 C88_4 C88_5 C88_6 C88_7 C88_8
 try clear C91_0 C91_1 C91_2 C91_3 C91_4 C91_5 C91_6 C91_7 C91_8
 try clear C95_0 C95_1 C95_2 C95_3 C95_4 C95_5 C95_6 C95_7 C95_8
 try clear C98_0 C98_1 C98_2 C98_3 C98_4 C98_5 C98_6 C98_7 C98_8
 try clear F100_0 F100_1 F100_2 F100_3 F100_4 F100_5 F100_6 F100_7 F100_8
 try clear F52_8
 try clear F55_0 F55_1 F55_2 F55_3 F55_4 F55_5 F55_6 F55_7 F55_8
 try clear F58_0 F58_1 F58_2 F58_3 F58_4 F58_5 F58_6 F58_7 F58_8
 try clear F66_0 F66_1 F66_2 F66_3 F66_4 F66_5 F66_6 F66_7 F66_8
 try clear F69_0 F69_1 F69_2 F69_3 F69_4 F69_5 F69_6 F69_7 F69_8
 try clear F73_0 F73_1 F73_2 F73_3 F73_4 F73_5 F73_6 F73_7 F73_8
 try clear F76_0 F76_1 F76_2 F76_3 F76_4 F76_5 F76_6 F76_7 F76_8
 try clear F81_0 F81_1 F81_2 F81_3 F81_4 F81_5 F81_6 F81_7 F81_8
 try clear F84_0 F84_1 F84_2 F84_3 F84_4 F84_5 F84_6 F84_7 F84_8
 try clear F88_0 F88_1 F88_2 F88_3 F88_4 F88_5 F88_6 F88_7 F88_8
 try clear F8_0 F8_1 F8_2
 try clear F91_0 F91_1 F91_2 F91_3 F91_4 F91_5 F91_6 F91_7 F91_8
 try clear F95_0 F95_1 F95_2 F95_3 F95_4 F95_5 F95_6 F95_7 F95_8
 try clear F98_0 F98_1 F98_2 F98_3 F98_4 F98_5 F98_6 F98_7 F98_8
 try clear F9_0 F9_1 F9_2 F9_3 F9_4 F9_5 F9_6 F9_7 F9_8
 try clear hx387_0
 try clear hx387_1
 try clear hx387_2
 try clear hx387_3
 try clear hx387_4
 try clear hx387_5
 try clear hx387_6
 try clear hx387_7
 try clear hx387_8
 try clear p387
 try clear q387
 obtain ⟨kq, x103_92, rfl, HA, HJ92, BK376, BK377, HB⟩ := hcut
 cases kq with
 | zero => exact absurd HA.out (by simp [Ad.j2])
 | succ kj92 =>(
 have H := HA.out
 clear HA
 simp only [Ad.j2] at H
 by_cases c101 : x103_92 = true
 ·(
 subst c101
 have H1 : (some 0) = some r := by rw [if_pos rfl] at H; exact H
 clear H
 have H := H1
 clear H1
 obtain rfl := Dp H
 go_wp2
 go_ret
 exact en_ HB)
 ·(
 replace c101 := Dq c101
 subst c101
 have H1 : (if a1_0 = 7 then (Ad.j3 kj92 x10_2 x11_2 a1_0 a1_1 a1_2 a1_3 a1_4 a1_5 a1_6 a1_7 l1_8) else (Ad.j3 kj92 x10_2 false a1_0 a1_1 a1_2 a1_3 a1_4 a1_5 a1_6 a1_7 l1_8)) = some r := by rw [if_neg (show ¬ (false = true) by decide)] at H; exact H
 clear H
 have H := H1
 clear H1
 have HC102 := Aa.mk H
 clear H
 go_upto_region 30 with (fail)
 go_cut [109] (fun v109 wc => ∃ (kq : Nat) (x109_101 : Bool), v109 = .bool x109_101 ∧ Aa (Ad.j3 kq x10_2 x109_101 a1_0 a1_1 a1_2 a1_3 a1_4 a1_5 a1_6 a1_7 l1_8 = some r) ∧ Aa (kq ≤ kj92) ∧ Aa (wc.heap[gb376]? = some (.cells #[.int .i64 a1_0, .string a1_1, .int .i64 a1_2, .bool a1_3, .int .i64 a1_4, .string a1_5, .int .i64 a1_6, .string a1_7, (.slice A1_8 l1_8.length c1_8)] 27 (0, 0))) ∧ Aa (wc.heap[gb377]? = some (.cells #[.bool x378000_3, .int .i64 x378001_3, .string x378002_3] 24 (0, 0))) ∧ Aa (Below w.heap.size w wc))
 case first =>(
 have H := HC102.out
 clear HC102
 by_cases c103 : a1_0 = 7
 rotate_left
 focus(
 rw [if_neg c103] at H
 have c103b0 : (a1_0 == 7) = false := Dj c103
 have c103b1 : (a1_0 != 7) = true := Dm c103)
 rotate_right
 focus(
 rw [if_pos c103] at H
 have c103b0 : (a1_0 == 7) = true := Dl c103
 have c103b1 : (a1_0 != 7) = false := Dk c103
 clear c103)
 all_goals(
 (first | rw [c103b0] | (simp only [i64_w, i32_w]; rw [c103b0]) | skip)
 have H' := Aa.mk H
 clear H
 have hnb104 := NB376_377.out
 have hnc104 := NB377_376.out
 obtain ⟨C105_0, C105_1, C105_2, C105_3, C105_4, C105_5, C105_6, C105_7, C105_8⟩ := cz9_ BK376.out
 obtain ⟨F105_0, F105_1, F105_2, F105_3, F105_4, F105_5, F105_6, F105_7, F105_8⟩ := fz9_ BK376.out
 go_wp2
 go_meet
 case rel => exact ⟨_, _, (by first | rfl | (simp; done) | (simp [*]; done)), H', ⟨by have := HJ3.out; have := HK2.out; have := HJ92.out; first | omega | exact Nat.le_refl _⟩, ⟨by (with_reducible repeat (first | refine Ag ?_ _ | refine Af ?_ | refine Ae ?_ _)); exact BK376.out⟩, ⟨by (with_reducible repeat (first | refine Ag ?_ _ | refine Af ?_ | refine Ae ?_ _)); exact BK377.out⟩, ⟨by repeat (first | (with_reducible first | exact HB.out | apply Ak | apply Ah | apply Aj | refine Ao ?_ GE376.out | refine Ao ?_ GE377.out) | exact HB.out)⟩⟩))
 case rest =>(
 clear HC102
 try clear c101
 try clear c103
 try clear c103b0
 try clear c103b1
 try clear C100_0 C100_1 C100_2 C100_3 C100_4 C100_5 C100_6 C100_7 C100_8
 try clear C105_0 C105_1 C105_2 C105_3 C105_4 C105_5 C105_6 C105_7 C105_8
 try clear C107_0 C107_1 C107_2 C107_3 C107_4 C107_5 C107_6 C107_7 C107_8
 try clear C66_0 C66_1 C66_2 C66_3 C66_4 C66_5 C66_6 C66_7 C66_8
 try clear C69_0 C69_1 C69_2 C69_3 C69_4 C69_5 C69_6 C69_7 C69_8
 try clear C73_0 C73_1 C73_2 C73_3 C73_4 C73_5 C73_6 C73_7 C73_8
 try clear C76_0 C76_1 C76_2 C76_3 C76_4 C76_5 C76_6 C76_7 C76_8
 try clear C81_0 C81_1 C81_2 C81_3 C81_4 C81_5 C81_6 C81_7 C81_8
 try clear C84_0 C84_1 C84_2 C84_3 C84_4 C84_5 C84_6 C84_7 C84_8
 try clear C88_0 C88_1 C88_2 C88_3 C88_4 C88_5 C88_6 C88_7 C88_8
 try clear C91_0 C91_1 C91_2 C91_3 C91_4 C91_5 C91_6 C91_7 C91_8
 try clear C95_0 C95_1 C95_2 C95_3 C95_4 C95_5 C95_6 C95_7 C95_8
 try clear C98_0 C98_1 C98_2 C98_3 C98_4 C98_5 C98_6 C98_7 C98_8
 try clear F100_0 F100_1 F100_2 F100_3 F100_4 F100_5 F100_6 F100_7 F100_8
 try clear F105_0 F105_1 F105_2 F105_3 F105_4 F105_5 F105_6 F105_7 F105_8
 try clear F107_0 F107_1 F107_2 F107_3 F107_4 F107_5 F107_6 F107_7 F107_8
 try clear F55_0 F55_1 F55_2 F55_3 F55_4 F55_5 F55_6 F55_7 F55_8
 try clear F58_0 F58_1 F58_2 F58_3 F58_4 F58_5 F58_6 F58_7 F58_8
 try clear F66_0 F66_1 F66_2 F66_3 F66_4 F66_5 F66_6 F66_7 F66_8
 try clear F69_0 F69_1 F69_2 F69_3 F69_4 F69_5 F69_6 F69_7 F69_8
 try clear F73_0 F73_1 F73_2 F73_3 F73_4 F73_5 F73_6 F73_7 F73_8
 try clear F76_0 F76_1 F76_2 F76_3 F76_4 F76_5 F76_6 F76_7 F76_8
 try clear F81_0 F81_1 F81_2 F81_3 F81_4 F81_5 F81_6 F81_7 F81_8
 try clear F84_0 F84_1 F84_2 F84_3 F84_4 F84_5 F84_6 F84_7 F84_8
 try clear F88_0 F88_1 F88_2 F88_3 F88_4 F88_5 F88_6 F88_7 F88_8
 try clear F8_0 F8_1 F8_2
 try clear F91_0 F91_1 F91_2 F91_3 F91_4 F91_5 F91_6 F91_7 F91_8
 try clear F95_0 F95_1 F95_2 F95_3 F95_4 F95_5 F95_6 F95_7 F95_8
 try clear F98_0 F98_1 F98_2 F98_3 F98_4 F98_5 F98_6 F98_7 F98_8
 try clear F9_0 F9_1 F9_2 F9_3 F9_4 F9_5 F9_6 F9_7 F9_8
 obtain ⟨kq, x109_101, rfl, HA, HJ101, BK376, BK377, HB⟩ := hcut
 cases kq with
 | zero => exact absurd HA.out (by simp [Ad.j3])
 | succ kj101 =>(
 have H := HA.out
 clear HA
 simp only [Ad.j3] at H
 by_cases c108 : x109_101 = true
 ·(
 subst c108
 have H1 : (some 1) = some r := by rw [if_pos rfl] at H; exact H
 clear H
 have H := H1
 clear H1
 obtain rfl := Dp H
 go_wp2
 go_ret
 exact en_ HB)
 ·(
 replace c108 := Dq c108
 subst c108
 have H1 : (if x10_2 = true then (some 2) else ((Bz.f (a1_0 == 6)).bind fun t389 => (some t389))) = some r := by rw [if_neg (show ¬ (false = true) by decide)] at H; exact H
 clear H
 have H := H1
 clear H1
 by_cases c109 : x10_2 = true
 ·(
 subst c109
 have H1 : (some 2) = some r := by rw [if_pos rfl] at H; exact H
 clear H
 have H := H1
 clear H1
 obtain rfl := Dp H
 go_wp2
 go_ret
 exact en_ HB)
 ·(
 replace c109 := Dq c109
 subst c109
 have H1 : ((Bz.f (a1_0 == 6)).bind fun t389 => (some t389)) = some r := by rw [if_neg (show ¬ (false = true) by decide)] at H; exact H
 clear H
 have H := H1
 clear H1
 replace H := Dn H
 obtain ⟨t389, A1100, H⟩ := H
 replace H : (some t389) = some r := H
 have A110 := Aa.mk A1100
 clear A1100
 obtain rfl := Dp H
 have hnb111 := NB376_377.out
 have hnc111 := NB377_376.out
 obtain ⟨C112_0, C112_1, C112_2, C112_3, C112_4, C112_5, C112_6, C112_7, C112_8⟩ := cz9_ BK376.out
 obtain ⟨F112_0, F112_1, F112_2, F112_3, F112_4, F112_5, F112_6, F112_7, F112_8⟩ := fz9_ BK376.out
 go_wp2_with (first | ((with_reducible refine Aw (f := 37) rfl ?_); refine gl_ (some 114) rfl Try.func37 #[.bool (a1_0 == 6)] ?_; (with_reducible refine (Bz.calls (a1_0 == 6) t389 _ A110.out).mono ?_); rintro e w' ⟨rfl, ⟨nd, rfl⟩⟩; refine ⟨_, rfl, ?_⟩))
 go_ret
 exact en_ HB)))))))))))))))))
theorem ordV_ord (ty : Int) (n m : Bool) (a1 : Int) (a2 : ByteArray) (b1 : Int) (b2 : ByteArray) (ha : Br.f ty n false a1 a2 = some true) (hb : Br.f ty m false b1 b2 = some true) :
    ord false a1 a2 false b1 b2 = ordV ty a1 a2 b1 b2 := by
 have hfl : cmpI (flagI false) (flagI false) = 0 := by simp [cmpI]
 unfold ord
 rw [if_pos hfl]
 unfold Br.f at ha hb
 rw [if_neg (by decide)] at ha hb
 have he : ∀ x y : ByteArray, x.toList = [] → y.toList = [] → cmpT x y = 0 := by(
 intro x y hx hy
 unfold cmpT
 rw [hx, hy, if_neg (by decide), if_pos rfl])
 unfold ordV
 by_cases h1 : ty = 1
 ·(
 rw [if_pos h1] at ha hb ⊢
 have ha := beq_iff_eq.1 (Dp ha)
 have hb := beq_iff_eq.1 (Dp hb)
 by_cases hc : cmpI a1 b1 = 0
 ·rw [if_pos hc, he _ _ ha hb, hc]
 ·rw [if_neg hc])
 ·(
 rw [if_neg h1] at ha hb ⊢
 by_cases h2 : ty = 2
 ·(
 rw [if_pos h2] at ha hb
 rw [if_neg (show ¬ ty = 3 by omega)]
 have key : ∀ (i : Int) (s : ByteArray), (if s.toList = ([] : List UInt8) then (if i = 0 then (some true) else (some (i == 1))) else (some false)) = some true → s.toList = [] ∧ (i = 0 ∨ i = 1) := by(
 intro i s h
 by_cases hs : s.toList = []
 ·(
 rw [if_pos hs] at h
 by_cases hi : i = 0
 ·exact ⟨hs, .inl hi⟩
 ·rw [if_neg hi] at h; exact ⟨hs, .inr (beq_iff_eq.1 (Dp h))⟩)
 ·rw [if_neg hs] at h; simp at h)
 obtain ⟨sa, ia⟩ := key _ _ ha
 obtain ⟨sb, ib⟩ := key _ _ hb
 rw [he _ _ sa sb]
 have hr : ∀ i : Int, i = 0 ∨ i = 1 → rankI (i != 0) = i := by rintro i (h | h) <;> subst h <;> rfl
 rw [hr _ ia, hr _ ib]
 by_cases hc : cmpI a1 b1 = 0
 ·rw [if_pos hc, hc]
 ·rw [if_neg hc])
 ·(
 rw [if_neg h2] at ha hb
 by_cases h3 : ty = 3
 ·(
 rw [if_pos h3] at ha hb ⊢
 have key : ∀ (i : Int) (s : ByteArray), (if i = 0 then (some (decide ((s.size : Int) ≤ 40))) else (some false)) = some true → i = 0 := by(
 intro i s h
 by_cases hi : i = 0
 ·exact hi
 ·rw [if_neg hi] at h; simp at h)
 rw [key _ _ ha, key _ _ hb, if_pos (by simp [cmpI])])
 ·rw [if_neg h3] at ha; simp at ha))
theorem cmp20 (a0 : Bool) (a1 : Int) (a2 : ByteArray) (op : Int) (b0 : Bool) (b1 : Int) (b2 : ByteArray) : TotP (fun r => r = holdsB op (ord a0 a1 a2 b0 b1 b2)) (fun k => Cm.f k a0 a1 a2 op b0 b1 b2) := by
 unfold Cm.f
 refine TotP.bind (ord09 a0 a1 a2 b0 b1 b2) (fun t ht => ?_)
 subst ht
 unfold holdsB
 repeat' (first | (refine TotP.ite (fun h => ?_) (fun h => ?_)) | (refine TotP.some_ ?_))
 all_goals simp [*]
theorem yes20 (b : Bool) : Bz.f b = some (truthI b) := by cases b <;> rfl
def finT (op : Int) (no mb is : Bool) : Int := if op = 6 ∧ no = true then 0 else if op = 7 ∧ is = true then 1 else if mb = true then 2 else if op = 6 then 1 else 0
theorem loop3_eq (s : Int) (hs : s ≠ 2) : ∀ (l : List Int) (o : Int), loop3 s o l = if l.any (· == s) = true then s else if l.any (· == 2) = true then 2 else o
  | [], o => by simp [loop3]
  | t :: r, o => by
    rw [loop3, loop3_eq s hs r, loop3_eq s hs r]
    simp only [List.any_cons, Bool.or_eq_true, beq_iff_eq]
    by_cases h : t = s
    · simp [h]
    · by_cases h2 : t = 2
      · by_cases h3 : r.any (· == s) = true <;> simp [h, h2, h3]
      · simp [h, h2]
theorem finT_and (l : List Int) (is : Bool) : finT 6 (l.any (· == 0)) (l.any (· == 2)) is = loop3 0 1 l := by
 rw [loop3_eq 0 (by decide)]
 unfold finT
 by_cases h : l.any (· == 0) = true
 ·rw [if_pos ⟨rfl, h⟩, if_pos h]
 ·rw [if_neg (fun h' => h h'.2), if_neg h, if_neg (fun h' => absurd h'.1 (by decide)), if_pos (rfl : (6 : Int) = 6)]
theorem finT_or (l : List Int) (no : Bool) : finT 7 no (l.any (· == 2)) (l.any (· == 1)) = loop3 1 0 l := by
 rw [loop3_eq 1 (by decide)]
 unfold finT
 rw [if_neg (show ¬ ((7 : Int) = 6 ∧ no = true) from fun h' => absurd h'.1 (by decide))]
 by_cases h : l.any (· == 1) = true
 ·rw [if_pos ⟨rfl, h⟩, if_pos h]
 ·rw [if_neg (fun h' => h h'.2), if_neg h, if_neg (by decide : ¬ ((7 : Int) = 6))]
theorem loop20 (l0 : List S64) (l1 : List S24) (x : S27) (g : S27 → Int) (hk : x.f6.length ≤ 9223372036854775806) (h67 : x.f0 = 6 ∨ x.f0 = 7)
    (h : ∀ y, y ∈ x.f6 → TotP (fun r => r = g y) (fun k => Ad.f k l0 y.f0 y.f1 y.f2 y.f3.f0 y.f3.f1 y.f3.f2 y.f4 y.f5 y.f6 l1)) :
    ∀ (n i : Nat) (no mb is : Bool), i + n = x.f6.length →
      TotP (fun r => r = finT x.f0 (no || ((x.f6.drop i).map g).any (· == 0)) (mb || ((x.f6.drop i).map g).any (· == 2)) (is || ((x.f6.drop i).map g).any (· == 1)))
        (fun k => Ad.l0 k l0 l1 no mb is (i : Int) x.f0 x.f1 x.f2 x.f3.f0 x.f3.f1 x.f3.f2 x.f4 x.f5 x.f6) := by
  intro n
  induction n with
  | zero =>
    intro i no mb is hi
    refine TotP.succ (fun k => by simp only [Ad.l0]; rfl) ?_
    refine TotP.ite (fun h => absurd h (by omega)) (fun _ => ?_)
    rw [List.drop_of_length_le (by omega)]
    simp only [List.map_nil, List.any_nil, Bool.or_false]
    have J3 : ∀ b : Bool, TotP (fun r => r = if b = true then 1 else if mb = true then 2 else if x.f0 = 6 then 1 else 0) (fun k => Ad.j3 k mb b x.f0 x.f1 x.f2 x.f3.f0 x.f3.f1 x.f3.f2 x.f4 x.f5 x.f6) := by
      intro b
      refine TotP.succ (fun k => by simp only [Ad.j3]; rfl) ?_
      refine TotP.ite (fun h => TotP.some_ (by rw [if_pos h])) (fun h => ?_)
      rw [if_neg h]
      refine TotP.ite (fun h => TotP.some_ (by rw [if_pos h])) (fun h => ?_)
      rw [if_neg h, yes20]
      simp only [Option.bind_some]
      refine TotP.some_ ?_
      by_cases h6 : x.f0 = 6
      · rw [if_pos h6, beq_iff_eq.2 h6]; rfl
      · rw [if_neg h6, beq_eq_false_iff_ne.2 h6]; rfl
    refine TotP.ite (fun h6 => ?_) (fun h6 => ?_)
    · refine TotP.succ (fun k => by simp only [Ad.j2]; rfl) ?_
      refine TotP.ite (fun hn => TotP.some_ (by rw [finT, if_pos ⟨h6, hn⟩])) (fun hn => ?_)
      refine TotP.ite (fun h7 => absurd h7 (by omega)) (fun h7 => (J3 false).weak (fun r hr => ?_))
      have e : finT x.f0 no mb is = if mb = true then 2 else if x.f0 = 6 then 1 else 0 := by unfold finT; rw [if_neg (fun h' => hn h'.2), if_neg (fun h' => h7 h'.1)]
      rw [hr, e, if_neg (by decide : ¬ (false = true))]
    · refine TotP.succ (fun k => by simp only [Ad.j2]; rfl) ?_
      refine TotP.ite (fun hn => absurd hn (by decide)) (fun hn => ?_)
      refine TotP.ite (fun h7 => (J3 is).weak (fun r hr => ?_)) (fun h7 => absurd h67 (by omega))
      have e : finT x.f0 no mb is = if is = true then 1 else if mb = true then 2 else if x.f0 = 6 then 1 else 0 := by
        unfold finT
        rw [if_neg (fun h' => h6 h'.1)]
        by_cases hi2 : is = true
        · rw [if_pos (show x.f0 = 7 ∧ is = true from ⟨h7, hi2⟩), if_pos hi2]
        · rw [if_neg (show ¬ (x.f0 = 7 ∧ is = true) from fun h' => hi2 h'.2), if_neg hi2]
      rw [hr, e]
  | succ n ih =>
    intro i no mb is hi
    refine TotP.succ (fun k => by simp only [Ad.l0]; rfl) ?_
    refine TotP.ite (fun _ => ?_) (fun h => absurd (by omega) h)
    refine TotP.ite (fun _ => ?_) (fun h => absurd (by omega) h)
    refine TotP.bind (h _ (rd27_mem x.f6 i (by omega))) (fun t ht => ?_)
    rw [rd27_get x.f6 i (by omega)] at ht
    have hw : wrap64 ((i : Int) + 1) = ((i + 1 : Nat) : Int) := by rw [wrap_in (by omega) (by omega)]; omega
    rw [hw]
    have hI := ih (i + 1) (no || (t == 0)) (mb || (t == 2)) (is || (t == 1)) (by omega)
    rw [List.drop_eq_getElem_cons (show i < x.f6.length by omega)]
    simp only [List.map_cons, List.any_cons, ← ht, ← Bool.or_assoc]
    cases no <;> cases mb <;> cases is <;> exact hI
theorem truth20 (l0 : List S64) (l1 : List S24) (hz : l0.length = l1.length) (hl0 : l0.length ≤ 9223372036854775806) (hm : ∀ i : Nat, i < l0.length → Br.f (Bj l0 (i : Int)).f1 (Bj l0 (i : Int)).f2 (Ax l1 (i : Int)).f0 (Ax l1 (i : Int)).f1 (Ax l1 (i : Int)).f2 = some true) :
    ∀ (d : Nat) (x : S27), Lens d x → Good mayStep d x → Good (typedStep l0) d x → TotP (fun r => r = ask3 l0 l1 d x) (fun k => Ad.f k l0 x.f0 x.f1 x.f2 x.f3.f0 x.f3.f1 x.f3.f2 x.f4 x.f5 x.f6 l1) := by
 intro d
 induction d with
 | zero => intro x _ h _; obtain ⟨e, h, _⟩ := h.step; omega
 | succ d ih =>(
 intro x hl hg ht
 obtain ⟨e, he, ⟨s, hs⟩, hmk⟩ := hg.step
 obtain ⟨e', he', ⟨s', hs'⟩, htk⟩ := ht.step
 have he1 : e = d := by omega
 have he2 : e' = d := by omega
 rw [he1] at hmk
 rw [he2] at htk
 have hlen : x.f6.length ≤ 9223372036854775806 := hl.1
 have hk : ∀ y, y ∈ x.f6 → TotP (fun r => r = ask3 l0 l1 d y) (fun k => Ad.f k l0 y.f0 y.f1 y.f2 y.f3.f0 y.f3.f1 y.f3.f2 y.f4 y.f5 y.f6 l1) := fun y hy => ih y (hl.2 y hy) (hmk y hy) (htk y hy)
 simp only [mayStep, Bool.and_eq_true] at hs
 have hty : typedB l0 x = true := hs'
 have hf := hs.2.1
 have hone : x.f0 = 1 ∨ x.f0 = 2 ∨ x.f0 = 3 ∨ x.f0 = 4 ∨ x.f0 = 5 ∨ x.f0 = 6 ∨ x.f0 = 7 := by rcases fields_cases x hf with h | h | h <;> omega
 have J : ∀ c : S24, (x.f0 = 2 ∨ x.f0 = 3 ∨ x.f0 = 4 → c = Ax l1 (colI l0 x) ∧ ∃ j : Nat, colI l0 x = (j : Int) ∧ j < l0.length) → TotP (fun r => r = ask3 l0 l1 (d + 1) x) (fun k => Ad.j0 k l0 l1 x.f0 x.f1 x.f2 x.f3.f0 x.f3.f1 x.f3.f2 x.f4 x.f5 x.f6 c.f0 c.f1 c.f2) := by(
 intro c hc
 refine TotP.succ (fun k => by simp only [Ad.j0]; rfl) ?_
 simp only [yes20, Option.bind_some]
 refine TotP.ite (fun h1 => TotP.some_ ?_) (fun h1 => ?_)
 ·rw [ask3, if_neg (by omega), if_neg (by omega), if_neg (by omega), if_pos h1]
 refine TotP.ite (fun h3 => TotP.some_ ?_) (fun h3 => ?_)
 ·rw [ask3, if_neg (by omega), if_neg (by omega), if_neg (by omega), if_neg h1, simpV, leafE, if_neg h1, if_pos h3, ← (hc (by omega)).1]
 refine TotP.ite (fun h2 => ?_) (fun h2 => ?_)
 ·(
 obtain ⟨hce, j, hj, hjl⟩ := hc (by omega)
 have ha : ask3 l0 l1 (d + 1) x = if c.f0 = true then 2 else truthI (holdsB x.f2 (ordV (Bj l0 (colI l0 x)).f1 c.f1 c.f2 x.f3.f1 x.f3.f2)) := by rw [ask3, if_neg (by omega), if_neg (by omega), if_neg (by omega), if_neg h1, simpV, leafE, if_neg h1, if_neg h3, ← hce, if_neg (show ¬ x.f0 = 4 by omega)]
 rw [ha]
 refine TotP.ite (fun hn => TotP.some_ (by rw [if_pos hn])) (fun hn => ?_)
 rw [if_neg hn]
 have hn' : c.f0 = false := by simpa using hn
 refine TotP.bind (cmp20 _ _ _ _ _ _ _) (fun t ht => ?_)
 refine TotP.some_ ?_
 rw [ht, hn', (val_in x hf h2).2]
 have hmj := hm j hjl
 rw [← hj, ← hce, hn'] at hmj
 have hnm : nameB x.f1 = true := by rcases fields_cases x hf with h | h | h; exact absurd h h1; exact h.2; omega
 have hkd := (typed_kind l0 x hty (name_ne _ hnm)).1 h2
 have hv : Br.f x.f4 false false x.f3.f1 x.f3.f2 = some true := by(
 have hfe := hf
 rw [fieldsB_eq, Bool.and_eq_true] at hfe
 have h := hfe.2
 unfold opB at h
 rw [if_neg h1, if_pos h2] at h
 simp only [Bool.and_eq_true, decide_eq_true_eq] at h
 have hq := h.2.2.2
 rw [(val_in x hf h2).2] at hq
 cases hcm : Br.f x.f4 false false x.f3.f1 x.f3.f2 with
 | none => rw [hcm] at hq; simp at hq
 | some b => rw [hcm] at hq; simp at hq; rw [hq])
 rw [← hkd] at hv
 rw [ordV_ord _ _ _ _ _ _ _ hmj hv])
 refine TotP.ite (fun h4 => ?_) (fun h4 => ?_)
 ·(
 obtain ⟨hce, j, hj, hjl⟩ := hc (by omega)
 have ha : ask3 l0 l1 (d + 1) x = if c.f0 = true then 2 else truthI (globM x.f5 c.f2) := by rw [ask3, if_neg (by omega), if_neg (by omega), if_neg (by omega), if_neg h1, simpV, leafE, if_neg h1, if_neg h3, ← hce, if_pos h4]
 rw [ha]
 refine TotP.ite (fun hn => TotP.some_ (by rw [if_pos hn])) (fun hn => ?_)
 rw [if_neg hn]
 have hmj := hm j hjl
 have hnm : nameB x.f1 = true := by rcases fields_cases x hf with h | h | h; exact absurd h h1; exact h.2; omega
 have hkd := (typed_kind l0 x hty (name_ne _ hnm)).2 h4
 rw [← hj, ← hce] at hmj
 have hcs := (may_kind _ _ _ _ _ hmj).2 hkd
 have hpl := pat_len x hf h4
 refine TotP.bind (match15 _ _ (by omega) hcs) (fun t ht => ?_)
 exact TotP.some_ (by rw [ht]))
 refine TotP.ite (fun h5 => ?_) (fun h5 => ?_)
 ·(
 have hk1 := kids_len x.f0 x.f6 hs.2.2 h5
 refine TotP.ite (fun _ => ?_) (fun h' => absurd (by omega) h')
 refine TotP.bind (hk _ (rd27_mem x.f6 0 (by omega))) (fun t ht => ?_)
 have ha : ask3 l0 l1 (d + 1) x = not3 t := by rw [ask3, if_pos h5, ht]
 rw [ha]
 unfold not3
 exact TotP.ite (fun h => TotP.some_ (by rw [if_pos h])) (fun h => TotP.some_ (by rw [if_neg h])))
 ·(
 have h67 : x.f0 = 6 ∨ x.f0 = 7 := by(
 clear hc hk ih hm hmk htk hl hg ht hs hs' hz hl0 hlen he1 he2 he he'
 omega)
 refine (loop20 l0 l1 x (ask3 l0 l1 d) hlen h67 hk x.f6.length 0 false false false (by omega)).weak (fun r hr => ?_)
 rw [hr, List.drop_zero]
 simp only [Bool.false_or]
 rcases h67 with h | h
 ·rw [ask3, if_neg h5, if_pos h, h, finT_and]
 ·rw [ask3, if_neg h5, if_neg (by omega), if_pos h, h, finT_or]))
 refine TotP.succ (fun k => by simp only [Ad.f]; rfl) ?_
 refine TotP.ite (fun he => ?_) (fun hne => ?_)
 ·(
 refine J ⟨false, 0, ⟨#[]⟩⟩ (fun h => ?_)
 exfalso
 rcases fields_cases x hf with h' | h' | h'
 ·omega
 ·exact name_ne _ h'.2 he
 ·omega)
 ·(
 refine TotP.bind (find12 l0 x.f1 hl0) (fun t ht => ?_)
 have hi := typed_found l0 x hty hne
 have hlt := idxOf_lt (fun y : S64 => y.f0.toList == x.f1.toList) l0
 subst ht
 refine TotP.ite (fun _ => ?_) (fun h' => absurd hi h')
 refine TotP.ite (fun _ => ?_) (fun h' => absurd (by omega) h')
 refine J (Ax l1 (colI l0 x)) (fun _ => ⟨rfl, (colI l0 x).toNat, ?_, ?_⟩)
 ·unfold colI; omega
 ·unfold colI; omega))
theorem bl_trans : ∀ (x y z : List UInt8), Op.bytesLess x y = true → Op.bytesLess y z = true → Op.bytesLess x z = true
  | [], y, [], h, h' => by cases y <;> simp [Op.bytesLess] at h h'
  | [], y, c :: z, h, h' => by simp [Op.bytesLess]
  | a :: x, [], z, h, h' => by simp [Op.bytesLess] at h
  | a :: x, b :: y, [], h, h' => by simp [Op.bytesLess] at h'
  | a :: x, b :: y, c :: z, h, h' => by
    have key : ∀ (p q : UInt8) (u v : List UInt8), Op.bytesLess (p :: u) (q :: v) = true ↔ p < q ∨ (p = q ∧ Op.bytesLess u v = true) := by
      intro p q u v
      by_cases h1 : p < q
      · simp [Op.bytesLess, h1]
      · by_cases h2 : p = q
        · subst h2; simp [Op.bytesLess]
        · simp [Op.bytesLess, h1, h2]
    rw [key] at h h' ⊢
    rcases h with h | ⟨rfl, h⟩ <;> rcases h' with h' | ⟨rfl, h'⟩
    · left; simp only [UInt8.lt_iff_toNat_lt] at *; omega
    · left; exact h
    · left; exact h'
    · right; exact ⟨rfl, bl_trans x y z h h'⟩
theorem cmpT_le (a b : ByteArray) : cmpT a b ≤ 0 ↔ Op.bytesLess a.toList b.toList = true ∨ a.toList = b.toList := by
 unfold cmpT
 by_cases h : Op.bytesLess a.toList b.toList = true
 ·simp [h]
 ·(
 by_cases e : a.toList = b.toList
 ·rw [if_neg h, if_pos e]; exact ⟨fun _ => .inr e, fun _ => Int.le_refl _⟩
 ·rw [if_neg h, if_neg e]; exact ⟨fun h => by omega, fun h' => h'.elim (fun h' => absurd h' h) (fun h' => absurd h' e)⟩)
theorem cmpT_trans {a b c : ByteArray} (h : cmpT a b ≤ 0) (h' : cmpT b c ≤ 0) : cmpT a c ≤ 0 := by
 rw [cmpT_le] at *
 rcases h with h | h <;> rcases h' with h' | h'
 ·exact .inl (bl_trans _ _ _ h h')
 ·exact .inl (by rw [← h']; exact h)
 ·exact .inl (by rw [h]; exact h')
 ·exact .inr (h.trans h')
theorem cmpI_le (a b : Int) : (cmpI a b ≤ 0 ↔ a ≤ b) ∧ (cmpI a b = 0 ↔ a = b) := by unfold cmpI; constructor <;> repeat' split <;> omega
theorem ord_le (a0 : Bool) (a1 : Int) (a2 : ByteArray) (b0 : Bool) (b1 : Int) (b2 : ByteArray) : ord a0 a1 a2 b0 b1 b2 ≤ 0 ↔ flagI a0 < flagI b0 ∨ (flagI a0 = flagI b0 ∧ (a1 < b1 ∨ (a1 = b1 ∧ cmpT a2 b2 ≤ 0))) := by
 obtain ⟨h1, h2⟩ := cmpI_le (flagI a0) (flagI b0)
 obtain ⟨h3, h4⟩ := cmpI_le a1 b1
 unfold ord
 by_cases e : cmpI (flagI a0) (flagI b0) = 0
 ·(
 rw [if_pos e]
 have e' := h2.1 e
 by_cases f : cmpI a1 b1 = 0
 ·(
 rw [if_pos f]
 have f' := h4.1 f
 constructor
 ·intro h; exact .inr ⟨e', .inr ⟨f', h⟩⟩
 ·(
 rintro (h | ⟨_, h | ⟨_, h⟩⟩)
 ·omega
 ·omega
 ·exact h))
 ·(
 rw [if_neg f, h3]
 have f' : ¬ a1 = b1 := fun x => f (h4.2 x)
 constructor
 ·intro h; exact .inr ⟨e', .inl (by omega)⟩
 ·rintro (h | ⟨_, h | ⟨h, _⟩⟩) <;> omega))
 ·(
 rw [if_neg e, h1]
 have e' : ¬ flagI a0 = flagI b0 := fun x => e (h2.2 x)
 constructor
 ·intro h; exact .inl (by omega)
 ·rintro (h | ⟨h, _⟩) <;> omega)
theorem ord_trans {a0 : Bool} {a1 : Int} {a2 : ByteArray} {b0 : Bool} {b1 : Int} {b2 : ByteArray} {c0 : Bool} {c1 : Int} {c2 : ByteArray} (h : ord a0 a1 a2 b0 b1 b2 ≤ 0) (h' : ord b0 b1 b2 c0 c1 c2 ≤ 0) : ord a0 a1 a2 c0 c1 c2 ≤ 0 := by
 rw [ord_le] at *
 rcases h with h | ⟨e, h⟩ <;> rcases h' with h' | ⟨e', h'⟩
 ·exact .inl (by omega)
 ·exact .inl (by omega)
 ·exact .inl (by omega)
 ·(
 refine .inr ⟨by omega, ?_⟩
 rcases h with h | ⟨f, h⟩ <;> rcases h' with h' | ⟨f', h'⟩
 ·exact .inl (by omega)
 ·exact .inl (by omega)
 ·exact .inl (by omega)
 ·exact .inr ⟨by omega, cmpT_trans h h'⟩)
abbrev ordC (a b : S24) : Int := ord a.f0 a.f1 a.f2 b.f0 b.f1 b.f2
theorem ordC_neg (a b : S24) : ordC b a = - ordC a b := ord_neg _ _ _ _ _ _
theorem ordC_trans {a b c : S24} (h : ordC a b ≤ 0) (h' : ordC b c ≤ 0) : ordC a c ≤ 0 := ord_trans h h'
def Cov (z : S33) (c : S24) : Prop := if c.f0 = true then z.f1 > 0 else z.f0 > z.f1 ∧ ordC z.f2 c ≤ 0 ∧ ordC c z.f3 ≤ 0
theorem yB_safe (lo c hi v : S24) (h1 : ordC lo c ≤ 0) (h2 : ordC c hi ≤ 0) (op : Int) (h : holdsB op (ordC c v) = true) : yB op (ordC lo v) (ordC hi v) = true := by
 have hv := ordC_neg c v
 have hl := ordC_neg lo v
 have hh := ordC_neg hi v
 have hlo : ordC c v ≤ 0 → ordC lo v ≤ 0 := fun h => ordC_trans h1 h
 have hhi : 0 ≤ ordC c v → 0 ≤ ordC hi v := fun h => by(
 have := ordC_trans (a := v) (b := c) (c := hi) (by omega) h2
 omega)
 have hlo' : 0 ≤ ordC lo v → 0 ≤ ordC c v := fun h => by(
 have := ordC_trans (a := v) (b := lo) (c := c) (by omega) h1
 omega)
 have hhi' : ordC hi v ≤ 0 → ordC c v ≤ 0 := fun h => ordC_trans h2 h
 generalize ordC lo v = a at *
 generalize ordC hi v = b at *
 generalize ordC c v = n at *
 unfold holdsB at h
 unfold yB
 by_cases o1 : op = 1
 ·(
 rw [if_pos o1] at h ⊢
 have : n = 0 := by simpa using h
 simp; omega)
 rw [if_neg o1] at h ⊢
 by_cases o2 : op = 2
 ·(
 rw [if_pos o2] at h ⊢
 have : n ≠ 0 := by simpa using h
 simp; omega)
 rw [if_neg o2] at h ⊢
 by_cases o3 : op = 3
 ·(
 rw [if_pos o3] at h ⊢
 have : n < 0 := by simpa using h
 simp; omega)
 rw [if_neg o3] at h ⊢
 by_cases o4 : op = 4
 ·(
 rw [if_pos o4] at h ⊢
 have : n ≤ 0 := by simpa using h
 simp; omega)
 rw [if_neg o4] at h ⊢
 by_cases o5 : op = 5
 ·(
 rw [if_pos o5] at h ⊢
 have : n > 0 := by simpa using h
 simp; omega)
 rw [if_neg o5] at h ⊢
 have : n ≥ 0 := by simpa using h
 simp; omega
theorem holds_back (op n : Int) (h1 : 1 ≤ op) (h6 : op ≤ 6) (h : holdsB op n = false) : holdsB (back op) n = true := by
 have : op = 1 ∨ op = 2 ∨ op = 3 ∨ op = 4 ∨ op = 5 ∨ op = 6 := by omega
 rcases this with rfl | rfl | rfl | rfl | rfl | rfl <;> simp [holdsB, back] at h ⊢ <;> omega
def mayT (t : Bool × Bool × Bool) (r : Int) : Prop := (r = 1 → t.1 = true) ∧ (r = 0 → t.2.1 = true) ∧ (r = 2 → t.2.2 = true) ∧ 0 ≤ r ∧ r ≤ 2
theorem leaf_safe (ty : Int) (z : S33) (c : S24) (x : S27) (m : Bool) (h2 : x.f0 = 2 → 1 ≤ x.f2 ∧ x.f2 ≤ 6) (h4 : x.f0 = 2 → c.f0 = false → ordV ty c.f1 c.f2 x.f3.f1 x.f3.f2 = ordC c x.f3) (h1 : x.f0 = 1 ∨ x.f0 = 2 ∨ x.f0 = 3 ∨ x.f0 = 4)
    (hc : x.f0 ≠ 1 → Cov z c) : mayT (leafR z x) (leafE ty c x m) := by
 have hb : ∀ b : Bool, truthI b = if b = true then 1 else 0 := fun b => rfl
 unfold leafR leafE
 rcases h1 with h | h | h | h
 ·(
 rw [if_pos h, if_pos h]
 exact ⟨fun _ => rfl, fun h => by omega, fun h => by omega, by omega, by omega⟩)
 ·(
 have e1 : ¬ x.f0 = 1 := by omega
 have e3 : ¬ x.f0 = 3 := by omega
 simp only [if_neg e1, if_neg e3, if_pos h]
 have hc := hc (by omega)
 unfold Cov at hc
 by_cases hn : c.f0 = true
 ·(
 rw [if_pos hn] at hc ⊢
 exact ⟨fun h => by omega, fun h => by omega, fun _ => by simpa using hc, by omega, by omega⟩)
 ·(
 rw [if_neg hn] at hc ⊢
 have hn' : c.f0 = false := by simpa using hn
 obtain ⟨hc1, hc2, hc3⟩ := hc
 rw [if_neg (by omega), h4 h hn', hb]
 cases hh : holdsB x.f2 (ordC c x.f3) with
 | true =>(
 have := yB_safe _ _ _ _ hc2 hc3 _ hh
 exact ⟨fun _ => by simp [hc1]; exact this, fun h => by simp at h, fun h => by simp at h, by simp, by simp⟩)
 | false =>(
 have := yB_safe _ _ _ _ hc2 hc3 _ (holds_back _ _ (h2 h).1 (h2 h).2 hh)
 exact ⟨fun h => by simp at h, fun _ => by simp [hc1]; exact this, fun h => by simp at h, by simp, by simp⟩)))
 ·(
 have e1 : ¬ x.f0 = 1 := by omega
 simp only [if_neg e1, if_pos h, hb]
 have hc := hc (by omega)
 unfold Cov at hc
 by_cases hn : c.f0 = true
 ·(
 rw [if_pos hn] at hc
 rw [hn]
 exact ⟨fun _ => by simpa using hc, fun h => by simp at h, fun h => by simp at h, by simp, by simp⟩)
 ·(
 rw [if_neg hn] at hc
 have hn' : c.f0 = false := by simpa using hn
 rw [hn']
 exact ⟨fun h => by simp at h, fun _ => by simpa using hc.1, fun h => by simp at h, by simp, by simp⟩))
 ·(
 have e1 : ¬ x.f0 = 1 := by omega
 have e2 : ¬ x.f0 = 2 := by omega
 have e3 : ¬ x.f0 = 3 := by omega
 simp only [if_neg e1, if_neg e2, if_neg e3]
 have hc := hc (by omega)
 unfold Cov at hc
 by_cases hn : c.f0 = true
 ·(
 rw [if_pos hn] at hc ⊢
 exact ⟨fun h => by omega, fun h => by omega, fun _ => by simpa using hc, by omega, by omega⟩)
 ·(
 rw [if_neg hn] at hc ⊢
 rw [if_pos h, hb]
 cases m with
 | true => exact ⟨fun _ => by simpa using hc.1, fun h => by simp at h, fun h => by simp at h, by simp, by simp⟩
 | false => exact ⟨fun h => by simp at h, fun _ => by simpa using hc.1, fun h => by simp at h, by simp, by simp⟩))
end Go.Proofs.Ytdedmhmomoejkaa.X
