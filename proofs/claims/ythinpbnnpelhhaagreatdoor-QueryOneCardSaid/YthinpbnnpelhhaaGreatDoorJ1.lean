import Derived.Test.YthinpbnnpelhhaaGreatDoorP2
import Derived.Test.YthinpbnnpelhhaaGreatDoorB9
import Derived.Lib.SlicesCompact
import Derived.Test.YthinpbnnpelhhaaGreatDoorB10
import Derived.Test.YthinpbnnpelhhaaGreatDoorB6
import Derived.Test.YthinpbnnpelhhaaGreatDoorSh
import Derived.Sort.EncStr
import Derived.Sort.Grow
import Derived.RangeFuncNested
import Derived.RangeFuncBound
import Derived.RangeFuncCalls
import Derived.RangeFuncLeaves
import Derived.RangeFuncBox
import Derived.Shelf.Abstract
import Derived.Shelf.RegionOpen
import Derived.WalkKit
import Derived.OwnWalkIn
import Derived.TacticsInMore
import Derived.LoopNIn
import Derived.LoopIn
import Derived.Maps.AppendAt
import Derived.Test.YthinpbnnpelhhaaGreatDoorB8
namespace Go.Proofs.YthinpbnnpelhhaaGreatDoor.V
open Go Go.RowKit Go.Proofs.YthinpbnnpelhhaaGreatDoorW.PrintLast
open Go.Proofs
set_option linter.unusedVariables false
set_option linter.unusedSimpArgs false
attribute [local irreducible] awp
section
set_option maxRecDepth 100000
/-! Unlike predicates have unlike texts. -/
/-- What may follow a predicate's text: nothing, a bracket, or ` g..` (a query goes on). -/
def rO (r : List UInt8) : Prop := r = [] ∨ (∃ t, r = 41 :: t) ∨ ∃ t, r = 32 :: 103 :: t
def rA (r : List UInt8) : Prop := rO r ∨ ∃ t, r = 32 :: 111 :: 114 :: 32 :: t
def rU (r : List UInt8) : Prop := rA r ∨ ∃ t, r = 32 :: 97 :: 110 :: 100 :: 32 :: t
theorem rU_hd {r : List UInt8} (h : rU r) : ∀ d q, r = d :: q → d = 41 ∨ d = 32 := by
  intro d q e
  rcases h with ((rfl | ⟨t, rfl⟩ | ⟨t, rfl⟩) | ⟨t, rfl⟩) | ⟨t, rfl⟩
  · cases e
  · left; injection e with e _; exact e.symm
  · right; injection e with e _; exact e.symm
  · right; injection e with e _; exact e.symm
  · right; injection e with e _; exact e.symm
theorem run_split (p : UInt8 → Bool) {a b r s : List UInt8} (ha : ∀ x ∈ a, p x = true) (hb : ∀ x ∈ b, p x = true) (hr : ∀ d q, r = d :: q → p d = false) (hs : ∀ d q, s = d :: q → p d = false) (h : a ++ r = b ++ s) : a = b ∧ r = s := by
  have h1 := runL_all p r hr a ha
  have h2 := runL_all p s hs b hb
  rw [h, h2] at h1
  exact List.append_inj h h1.symm
def nmT (l : List UInt8) : List UInt8 := l.take (runL namC l)
def rsT (l : List UInt8) : List UInt8 := l.drop (runL namC l)
theorem nmT_app {a r : List UInt8} (ha : ∀ x ∈ a, namC x = true) (hr : ∀ d q, r = d :: q → namC d = false) : nmT (a ++ r) = a ∧ rsT (a ++ r) = r := by
  unfold nmT rsT
  rw [runL_all namC r hr a ha]
  simp
theorem nm_all {s : ByteArray} (h : nameB s = true) : ∀ x ∈ bsL s, namC x = true := by
  intro x hx
  obtain ⟨i, hi⟩ := List.getElem?_of_mem hx
  rcases ((nameB_iff s).1 h).1 i x hi with h | h
  · unfold namC; rw [h]; rfl
  · exact h.2
theorem nm_not {s : ByteArray} (h : nameB s = true) : bsL s ≠ [110, 111, 116] := fun e =>
  ((nameB_iff s).1 h).2.1 ⟨#[110, 111, 116]⟩ (by simp [wordsQ]) (ba_ext (by rw [e]))
/-- Which kind of unit a text begins with. -/
def hk (l : List UInt8) : Int :=
  if nmT l = [110, 111, 116] then 5 else if (rsT l).take 2 = [32, 105] then 3 else if (rsT l).take 2 = [32, 108] then 4
  else if (rsT l).take 2 = [32, 61] ∨ (rsT l).take 2 = [32, 60] ∨ (rsT l).take 2 = [32, 62] then 2 else 1
theorem sp32 {r : List UInt8} : ∀ d q, (32 : UInt8) :: r = d :: q → namC d = false := by
  intro d q e
  injection e with e _
  subst e
  rfl
theorem rU_nam {r : List UInt8} (h : rU r) : ∀ d q, r = d :: q → namC d = false := by
  intro d q e
  rcases rU_hd h d q e with rfl | rfl <;> rfl
theorem join1 (x : List UInt8) (sep : List UInt8) : Lib.join [x] sep = x := Lib.join_one _ _
theorem sign_hd {m : Int} (h1 : 1 ≤ m) (h6 : m ≤ 6) (X : List UInt8) : ∃ c t, signL m ++ X = c :: t ∧ (c = 61 ∨ c = 60 ∨ c = 62) := by
  have : m = 1 ∨ m = 2 ∨ m = 3 ∨ m = 4 ∨ m = 5 ∨ m = 6 := by omega
  rcases this with rfl | rfl | rfl | rfl | rfl | rfl
  all_goals exact ⟨_, _, rfl, by decide⟩
theorem hk_op (p : Pr) (hp : HdP p) (h5 : p.op ≤ 5) (r : List UInt8) (hr : rU r) : hk (txP p ++ r) = p.op := by
  rw [txP_eq]
  rcases hp with ⟨h, -⟩ | ⟨h, hn, hc1, hc2, -⟩ | ⟨h, hn, -⟩ | ⟨h, hn, -⟩ | ⟨h, -, -, -, -, -, -, hk1, -⟩
  · rw [if_pos h, h]
    obtain ⟨e1, e2⟩ := nmT_app (a := [97, 108, 108]) (r := r) (by decide) (rU_nam hr)
    unfold hk
    rw [e1, e2]
    rcases hr with ((rfl | ⟨t, rfl⟩ | ⟨t, rfl⟩) | ⟨t, rfl⟩) | ⟨t, rfl⟩
    all_goals simp
  · rw [if_neg (by omega), if_pos h, h, List.append_assoc]
    obtain ⟨e1, e2⟩ := nmT_app (a := bsL p.col) (r := 32 :: ((signL p.cmp ++ (32 :: valS p.kind p.val)) ++ r)) (nm_all hn) sp32
    unfold hk
    rw [List.cons_append, e1, e2, if_neg (nm_not hn)]
    obtain ⟨c, t, e3, hc⟩ := sign_hd hc1 hc2 ((32 :: valS p.kind p.val) ++ r)
    rw [List.append_assoc, e3]
    rcases hc with rfl | rfl | rfl
    all_goals simp
  · rw [if_neg (by omega), if_neg (by omega), if_pos h, h, List.append_assoc]
    obtain ⟨e1, e2⟩ := nmT_app (a := bsL p.col) (r := [32, 105, 115, 32, 110, 117, 108, 108] ++ r) (nm_all hn) sp32
    unfold hk
    rw [e1, e2, if_neg (nm_not hn)]
    rfl
  · rw [if_neg (by omega), if_neg (by omega), if_neg (by omega), if_pos h, h, List.append_assoc]
    obtain ⟨e1, e2⟩ := nmT_app (a := bsL p.col) (r := [32, 108, 105, 107, 101, 32] ++ bsL (quoS p.pat) ++ r) (nm_all hn) sp32
    unfold hk
    rw [e1, e2, if_neg (nm_not hn)]
    rfl
  · have h : p.op = 5 := by omega
    rw [if_neg (by omega), if_neg (by omega), if_neg (by omega), if_neg (by omega), if_pos h, h]
    obtain ⟨e1, -⟩ := nmT_app (a := [110, 111, 116]) (r := 32 :: (Lib.join (p.kids.map fun k => parL 5 k.op (txP k)) (sepL 5) ++ r)) (by decide) sp32
    unfold hk
    rw [if_pos]
    exact e1
theorem itoa_inj {a b : Int} (h0 : -9223372036854775808 ≤ a) (h1 : a ≤ 9223372036854775807) (h2 : -9223372036854775808 ≤ b) (h3 : b ≤ 9223372036854775807) (h : Lib.itoa a = Lib.itoa b) : a = b := by
  have e1 := parse_itoa a h0 (by omega)
  have e2 := parse_itoa b h2 (by omega)
  rw [h, e2] at e1
  injection e1 with e1
  exact e1.symm
theorem quo_split {a b : ByteArray} {r s : List UInt8} (hr : ∀ d q, r = d :: q → d.toNat ≠ 39) (hs : ∀ d q, s = d :: q → d.toNat ≠ 39) (h : bsL (quoS a) ++ r = bsL (quoS b) ++ s) : a = b ∧ r = s := by
  have h' : escL (bsL a) ++ 39 :: r = escL (bsL b) ++ 39 :: s := by
    have e : ∀ (x : ByteArray) (y : List UInt8), bsL (quoS x) ++ y = 39 :: (escL (bsL x) ++ 39 :: y) := fun x y => by
      show (39 :: (escL (bsL x) ++ [39])) ++ y = _
      simp
    rw [e, e] at h
    injection h
  have e1 := quot_esc r hr (bsL a)
  have e2 := quot_esc s hs (bsL b)
  rw [h', e2] at e1
  injection e1 with e1
  injection e1 with e1 e3
  refine ⟨(ba_ext e1).symm, ?_⟩
  obtain ⟨-, e4⟩ := List.append_inj h' (by omega)
  injection e4
end
section
set_option maxRecDepth 100000
theorem ce_ext {a b : Ce} (h1 : a.nl = b.nl) (h2 : a.i = b.i) (h3 : a.s = b.s) : a = b := by
  cases a; cases b; simp_all
theorem Pr.same {p q : Pr} (h1 : p.op = q.op) (h2 : p.col = q.col) (h3 : p.cmp = q.cmp) (h4 : p.val = q.val) (h5 : p.kind = q.kind) (h6 : p.pat = q.pat) (h7 : p.kids = q.kids) : p = q := by
  obtain ⟨o, c, m, v, k, pt, ks⟩ := p
  obtain ⟨o', c', m', v', k', pt', ks'⟩ := q
  simp only [Pr.op, Pr.col, Pr.cmp, Pr.val, Pr.kind, Pr.pat, Pr.kids] at *
  subst h1 h2 h3 h4 h5 h6 h7
  rfl
def numC (c : UInt8) : Bool := digC c || decide (c.toNat = 45)
/-- Three kinds of values' texts, told by their first byte. -/
theorem val_three {ty : Int} {c : Ce} (h : MayC ty false c) :
    c.nl = false ∧ ((ty = 3 ∧ c.i = 0 ∧ valS ty c = bsL (quoS c.s)) ∨ (ty = 1 ∧ c.s = e0 ∧ valS ty c = Lib.itoa c.i) ∨ (ty = 2 ∧ c.s = e0 ∧ ((c.i = 0 ∧ valS ty c = [102, 97, 108, 115, 101]) ∨ (c.i = 1 ∧ valS ty c = [116, 114, 117, 101])))) := by
  obtain ⟨h1, h2, h3⟩ := h
  rcases h3 with ⟨_, h, _⟩ | ⟨hn, ht, hi, hs⟩ | ⟨hn, ht, hs, h3⟩
  · cases h
  · refine ⟨hn, .inl ⟨ht, hi, ?_⟩⟩
    unfold valS
    rw [hn, ht]
    rfl
  · refine ⟨hn, .inr ?_⟩
    have : ty = 1 ∨ ty = 2 := by omega
    rcases this with rfl | rfl
    · refine .inl ⟨rfl, hs, ?_⟩
      unfold valS
      rw [hn]
      rfl
    · refine .inr ⟨rfl, hs, ?_⟩
      have : c.i = 0 ∨ c.i = 1 := by omega
      rcases this with h | h
      · refine .inl ⟨h, ?_⟩
        unfold valS
        rw [hn, h]
        rfl
      · refine .inr ⟨h, ?_⟩
        unfold valS
        rw [hn, h]
        rfl
theorem itoa_num (n : Int) : ∃ c q, Lib.itoa n = c :: q ∧ numC c = true ∧ ∀ x ∈ Lib.itoa n, numC x = true := by
  obtain ⟨c, q, h1, -, h2, h3⟩ := itoa_shape n
  have hc : numC c = true := by
    unfold numC
    rcases h2 with h | h
    · rw [h]; rfl
    · rw [decide_eq_true h, Bool.or_true]
  refine ⟨c, q, h1, hc, fun x hx => ?_⟩
  rw [h1] at hx
  rcases List.mem_cons.1 hx with rfl | hx
  · exact hc
  · unfold numC
    rw [h3 x hx]
    rfl
theorem rU_39 {r : List UInt8} (h : rU r) : ∀ d q, r = d :: q → d.toNat ≠ 39 := by
  intro d q e
  rcases rU_hd h d q e with rfl | rfl <;> decide
theorem rU_num {r : List UInt8} (h : rU r) : ∀ d q, r = d :: q → numC d = false := by
  intro d q e
  rcases rU_hd h d q e with rfl | rfl <;> rfl
theorem quo_cons (x : ByteArray) (y : List UInt8) : bsL (quoS x) ++ y = 39 :: (escL (bsL x) ++ 39 :: y) := by
  show (39 :: (escL (bsL x) ++ [39])) ++ y = _
  simp
theorem val_inj {ty ty' : Int} {c c' : Ce} (h : MayC ty false c) (h' : MayC ty' false c') (g0 : -9223372036854775808 ≤ c.i) (g1 : c.i ≤ 9223372036854775807) (g2 : -9223372036854775808 ≤ c'.i) (g3 : c'.i ≤ 9223372036854775807)
    {r s : List UInt8} (hr : rU r) (hs : rU s) (e : valS ty c ++ r = valS ty' c' ++ s) : ty = ty' ∧ c = c' ∧ r = s := by
  obtain ⟨n1, k1⟩ := val_three h
  obtain ⟨n2, k2⟩ := val_three h'
  have hn : c.nl = c'.nl := by rw [n1, n2]
  obtain ⟨d, q, i1, i2, i3⟩ := itoa_num c.i
  obtain ⟨d', q', j1, j2, j3⟩ := itoa_num c'.i
  rcases k1 with ⟨t, x, y⟩ | ⟨t, x, y⟩ | ⟨t, x, ⟨z, y⟩ | ⟨z, y⟩⟩ <;> rcases k2 with ⟨t', x', y'⟩ | ⟨t', x', y'⟩ | ⟨t', x', ⟨z', y'⟩ | ⟨z', y'⟩⟩ <;> rw [y, y'] at e
  · obtain ⟨a, b⟩ := quo_split (rU_39 hr) (rU_39 hs) e
    exact ⟨by omega, ce_ext hn (by omega) a, b⟩
  · rw [quo_cons, j1] at e
    injection e with e _
    subst e
    cases j2
  · rw [quo_cons] at e
    injection e with e _
    cases e
  · rw [quo_cons] at e
    injection e with e _
    cases e
  · rw [quo_cons, i1] at e
    injection e with e _
    subst e
    cases i2
  · obtain ⟨a, b⟩ := run_split numC i3 j3 (rU_num hr) (rU_num hs) e
    exact ⟨by omega, ce_ext hn (itoa_inj g0 g1 g2 g3 a) (by rw [x, x']), b⟩
  · rw [i1] at e
    injection e with e _
    subst e
    cases i2
  · rw [i1] at e
    injection e with e _
    subst e
    cases i2
  · rw [quo_cons] at e
    injection e with e _
    cases e
  · rw [j1] at e
    injection e with e _
    subst e
    cases j2
  · exact ⟨by omega, ce_ext hn (by omega) (by rw [x, x']), List.append_cancel_left e⟩
  · injection e with e _
    cases e
  · rw [quo_cons] at e
    injection e with e _
    cases e
  · rw [j1] at e
    injection e with e _
    subst e
    cases j2
  · injection e with e _
    cases e
  · exact ⟨by omega, ce_ext hn (by omega) (by rw [x, x']), List.append_cancel_left e⟩
def sgnC (c : UInt8) : Bool := decide (c = 61) || decide (c = 60) || decide (c = 62)
theorem sign_inj {m m' : Int} (h1 : 1 ≤ m) (h2 : m ≤ 6) (h3 : 1 ≤ m') (h4 : m' ≤ 6) {r s : List UInt8} (e : signL m ++ 32 :: r = signL m' ++ 32 :: s) : m = m' ∧ r = s := by
  have al : ∀ m : Int, 1 ≤ m → m ≤ 6 → ∀ x ∈ signL m, sgnC x = true := fun m h1 h2 => by
    have : m = 1 ∨ m = 2 ∨ m = 3 ∨ m = 4 ∨ m = 5 ∨ m = 6 := by omega
    rcases this with rfl | rfl | rfl | rfl | rfl | rfl
    all_goals decide
  have hd : ∀ (r : List UInt8) d q, 32 :: r = d :: q → sgnC d = false := fun r d q e => by
    injection e with e _
    subst e
    rfl
  obtain ⟨a, b⟩ := run_split sgnC (al m h1 h2) (al m' h3 h4) (hd r) (hd s) e
  injection b with _ b
  refine ⟨?_, b⟩
  have : m = 1 ∨ m = 2 ∨ m = 3 ∨ m = 4 ∨ m = 5 ∨ m = 6 := by omega
  have : m' = 1 ∨ m' = 2 ∨ m' = 3 ∨ m' = 4 ∨ m' = 5 ∨ m' = 6 := by omega
  rcases ‹m = 1 ∨ _› with rfl | rfl | rfl | rfl | rfl | rfl <;> rcases ‹m' = 1 ∨ _› with rfl | rfl | rfl | rfl | rfl | rfl
  all_goals first | rfl | (exact absurd a (by decide))
end
section
set_option maxRecDepth 100000
theorem join_two (x y : List UInt8) (r : List (List UInt8)) (sep : List UInt8) : Lib.join (x :: y :: r) sep = x ++ (sep ++ Lib.join (y :: r) sep) := by
  rw [Lib.join_cons, Lib.join_cons]
  simp [Lib.joinTail]
/-- Rows of texts that are told apart one by one are told apart. -/
theorem join_inj (sep : List UInt8) (T : Pr → List UInt8) (G : Pr → Prop) (R0 R1 : List UInt8 → Prop) (h01 : ∀ r, R0 r → R1 r) (hsep : ∀ t, R1 (sep ++ t)) (hno : ∀ r t, R0 r → r ≠ sep ++ t) :
    ∀ (l m : List Pr) (r s : List UInt8), (∀ k ∈ l, ∀ j r s, G j → R1 r → R1 s → T k ++ r = T j ++ s → k = j ∧ r = s) → (∀ j ∈ m, G j) → l ≠ [] → m ≠ [] → R0 r → R0 s → Lib.join (l.map T) sep ++ r = Lib.join (m.map T) sep ++ s → l = m ∧ r = s
  | [], _, _, _, _, _, h, _, _, _, _ => absurd rfl h
  | _ :: _, [], _, _, _, _, _, h, _, _, _ => absurd rfl h
  | [k], [j], r, s, hl, hm, _, _, hr, hs, e => by
    rw [List.map_cons, List.map_nil, List.map_cons, List.map_nil, join1, join1] at e
    obtain ⟨rfl, h⟩ := hl k (by simp) j r s (hm j (by simp)) (h01 r hr) (h01 s hs) e
    exact ⟨rfl, h⟩
  | [k], j :: j' :: m, r, s, hl, hm, _, _, hr, hs, e => by
    simp only [List.map_cons, List.map_nil, join1, join_two, List.append_assoc] at e
    obtain ⟨-, h⟩ := hl k (by simp) j r _ (hm j (by simp)) (h01 r hr) (hsep _) e
    exact absurd h (hno r _ hr)
  | k :: k' :: l, [j], r, s, hl, hm, _, _, hr, hs, e => by
    simp only [List.map_cons, List.map_nil, join1, join_two, List.append_assoc] at e
    obtain ⟨-, h⟩ := hl k (by simp) j _ s (hm j (by simp)) (hsep _) (h01 s hs) e
    exact absurd h.symm (hno s _ hs)
  | k :: k' :: l, j :: j' :: m, r, s, hl, hm, _, _, hr, hs, e => by
    simp only [List.map_cons, join_two, List.append_assoc] at e
    obtain ⟨rfl, h⟩ := hl k (by simp) j _ _ (hm j (by simp)) (hsep _) (hsep _) e
    have h := List.append_cancel_left h
    rw [← List.map_cons, ← List.map_cons] at h
    obtain ⟨h1, h2⟩ := join_inj sep T G R0 R1 h01 hsep hno (k' :: l) (j' :: m) r s (fun x hx => hl x (List.mem_cons_of_mem _ hx)) (fun x hx => hm x (List.mem_cons_of_mem _ hx)) (by simp) (by simp) hr hs h
    exact ⟨by rw [h1], h2⟩
/-- One that may be, within the machine's numbers. -/
def Gd (p : Pr) : Prop := oneP p = true ∧ Rg p
theorem Gd.hd {p : Pr} (h : Gd p) : HdP p := oneP_hd h.1
theorem Gd.kid {p : Pr} (h : Gd p) : ∀ x ∈ p.kids, Gd x := fun x hx => ⟨oneP_kid h.1 x hx, h.2.kid x hx⟩
theorem Gd.nd {p : Pr} (h : Gd p) (h6 : 6 ≤ p.op) : ∀ x ∈ p.kids, x.op ≠ p.op := by
  have h1 := h.1
  rw [oneP_eq, Bool.and_eq_true] at h1
  have h2 := h1.1
  unfold ndP at h2
  rw [Bool.and_eq_true, decide_eq_true h6, Bool.true_and, Bool.not_eq_true', List.any_eq_false] at h2
  exact fun x hx => by simpa using h2.2 x hx
def Uq (p : Pr) : Prop := ∀ (q : Pr) (r s : List UInt8), p.op ≤ 5 → q.op ≤ 5 → Gd p → Gd q → rU r → rU s → txP p ++ r = txP q ++ s → p = q ∧ r = s
def Aq (p : Pr) : Prop := ∀ (q : Pr) (r s : List UInt8), p.op ≤ 6 → q.op ≤ 6 → Gd p → Gd q → rA r → rA s → txP p ++ r = txP q ++ s → p = q ∧ r = s
def Oq (p : Pr) : Prop := ∀ (q : Pr) (r s : List UInt8), Gd p → Gd q → rO r → rO s → txP p ++ r = txP q ++ s → p = q ∧ r = s
theorem op_le {p : Pr} (h : HdP p) : 1 ≤ p.op ∧ p.op ≤ 7 := by
  rcases h with ⟨h, -⟩ | ⟨h, -⟩ | ⟨h, -⟩ | ⟨h, -⟩ | ⟨h, h', -⟩ <;> omega
theorem un_hd {p : Pr} (h : HdP p) (h5 : p.op ≤ 5) : ∃ c t, txP p = c :: t ∧ c ≠ 40 := by
  have nm : ∀ {s : ByteArray} (X : List UInt8), nameB s = true → ∃ c t, bsL s ++ X = c :: t ∧ c ≠ 40 := fun {s} X hn => by
    have h1 := nm_all hn
    have h2 := ((nameB_iff s).1 hn).2.2.1
    rw [← len_bsL] at h2
    cases hb : bsL s with
    | nil => rw [hb] at h2; simp at h2
    | cons c t =>
      refine ⟨c, t ++ X, rfl, fun e => ?_⟩
      have := h1 c (by rw [hb]; simp)
      rw [e] at this
      cases this
  rw [txP_eq]
  rcases h with ⟨h, -⟩ | ⟨h, hn, -⟩ | ⟨h, hn, -⟩ | ⟨h, hn, -⟩ | ⟨h, -⟩
  · rw [if_pos h]; exact ⟨_, _, rfl, by decide⟩
  · rw [if_neg (by omega), if_pos h]; exact nm _ hn
  · rw [if_neg (by omega), if_neg (by omega), if_pos h]; exact nm _ hn
  · rw [if_neg (by omega), if_neg (by omega), if_neg (by omega), if_pos h]; exact nm _ hn
  · rw [if_neg (by omega), if_neg (by omega), if_neg (by omega), if_neg (by omega), if_pos (by omega)]
    exact ⟨_, _, rfl, by decide⟩
/-- Is a kid's text in brackets? -/
abbrev brk (op : Int) (k : Pr) : Prop := (op = 5 ∧ 6 ≤ k.op) ∨ (op = 6 ∧ k.op = 7)
theorem kid_inj {op : Int} {k j : Pr} (hU : Uq k) (hO : brk op k → Oq k) (bk : brk op k ∨ k.op ≤ 5) (bj : brk op j ∨ j.op ≤ 5) (gk : Gd k) (gj : Gd j) {r s : List UInt8} (hr : rU r) (hs : rU s)
    (e : parL op k.op (txP k) ++ r = parL op j.op (txP j) ++ s) : k = j ∧ r = s := by
  unfold parL at e
  by_cases b1 : brk op k
  · rw [if_pos b1] at e
    by_cases b2 : brk op j
    · rw [if_pos b2] at e
      simp only [List.cons_append, List.append_assoc, List.nil_append] at e
      injection e with _ e
      obtain ⟨h1, h2⟩ := hO b1 j _ _ gk gj (.inr (.inl ⟨r, rfl⟩)) (.inr (.inl ⟨s, rfl⟩)) e
      injection h2 with _ h2
      exact ⟨h1, h2⟩
    · rw [if_neg b2] at e
      obtain ⟨c, t, h1, h2⟩ := un_hd gj.hd (bj.resolve_left b2)
      rw [h1] at e
      injection e with e _
      exact absurd e.symm h2
  · rw [if_neg b1] at e
    by_cases b2 : brk op j
    · rw [if_pos b2] at e
      obtain ⟨c, t, h1, h2⟩ := un_hd gk.hd (bk.resolve_left b1)
      rw [h1] at e
      injection e with e _
      exact absurd e h2
    · rw [if_neg b2] at e
      exact hU j r s (bk.resolve_left b1) (bj.resolve_left b2) gk gj hr hs e
end
section
set_option maxRecDepth 100000
theorem v0_eq {p q : Pr} (h : V0 p) (h' : V0 q) : p.val = q.val :=
  ce_ext (by rw [h.1, h'.1]) (by rw [h.2.1, h'.2.1]) (by rw [h.2.2, h'.2.2])
theorem hd_deep {p : Pr} (h : HdP p) (h5 : 5 ≤ p.op) : p.col = e0 ∧ p.cmp = 0 ∧ V0 p ∧ p.kind = 0 ∧ p.pat = e0 ∧ (p.op = 5 → p.kids.length = 1) ∧ (6 ≤ p.op → 2 ≤ p.kids.length) := by
  rcases h with ⟨h, -⟩ | ⟨h, -⟩ | ⟨h, -⟩ | ⟨h, -⟩ | ⟨-, -, h⟩
  · omega
  · omega
  · omega
  · omega
  · exact h
theorem deep_eq {p q : Pr} (h : HdP p) (h' : HdP q) (h5 : 5 ≤ p.op) (ho : p.op = q.op) (hk : p.kids = q.kids) : p = q := by
  obtain ⟨a1, a2, a3, a4, a5, -⟩ := hd_deep h h5
  obtain ⟨b1, b2, b3, b4, b5, -⟩ := hd_deep h' (by omega)
  exact Pr.same ho (by rw [a1, b1]) (by rw [a2, b2]) (v0_eq a3 b3) (by rw [a4, b4]) (by rw [a5, b5]) hk
theorem len0 {p q : Pr} (h : p.kids.length = 0) (h' : q.kids.length = 0) : p.kids = q.kids := by
  rw [List.eq_nil_of_length_eq_zero h, List.eq_nil_of_length_eq_zero h']
theorem uq_of (p : Pr) (ihU : ∀ x ∈ p.kids, Uq x) (ihO : ∀ x ∈ p.kids, Oq x) : Uq p := by
  intro q r s hp5 hq5 gp gq hr hs e
  have o1 := hk_op p gp.hd hp5 r hr
  have o2 := hk_op q gq.hd hq5 s hs
  have ho : p.op = q.op := by rw [← o1, ← o2, e]
  have hp := gp.hd
  have hq := gq.hd
  rw [txP_eq p, txP_eq q] at e
  rcases hp with ⟨h, a1, a2, a3, a4, a5, a6⟩ | ⟨h, a1, a2, a3, a4, a5, a6⟩ | ⟨h, a1, a2, a3, a4, a5, a6⟩ | ⟨h, a1, a2, a3, a4, a5, a6⟩ | ⟨h, -, a1, a2, a3, a4, a5, a6, -⟩
  · rcases hq with ⟨h', b1, b2, b3, b4, b5, b6⟩ | ⟨h', -⟩ | ⟨h', -⟩ | ⟨h', -⟩ | ⟨h', -⟩
    · rw [if_pos h, if_pos h'] at e
      exact ⟨Pr.same ho (by rw [a1, b1]) (by rw [a2, b2]) (v0_eq a3 b3) (by rw [a4, b4]) (by rw [a5, b5]) (len0 a6 b6), List.append_cancel_left e⟩
    all_goals omega
  · rcases hq with ⟨h', -⟩ | ⟨h', b1, b2, b3, b4, b5, b6⟩ | ⟨h', -⟩ | ⟨h', -⟩ | ⟨h', -⟩
    · omega
    · rw [if_neg (by omega), if_pos h, if_neg (by omega), if_pos h'] at e
      simp only [List.append_assoc, List.cons_append] at e
      obtain ⟨c, e⟩ := run_split namC (nm_all a1) (nm_all b1) sp32 sp32 e
      injection e with _ e
      obtain ⟨c2, e⟩ := sign_inj a2 a3 b2 b3 e
      obtain ⟨c3, c4, e⟩ := val_inj a4 b4 gp.2.lo gp.2.hi gq.2.lo gq.2.hi hr hs e
      exact ⟨Pr.same ho (ba_ext c) c2 c4 c3 (by rw [a5, b5]) (len0 a6 b6), e⟩
    all_goals omega
  · rcases hq with ⟨h', -⟩ | ⟨h', -⟩ | ⟨h', b1, b2, b3, b4, b5, b6⟩ | ⟨h', -⟩ | ⟨h', -⟩
    · omega
    · omega
    · rw [if_neg (by omega), if_neg (by omega), if_pos h, if_neg (by omega), if_neg (by omega), if_pos h'] at e
      simp only [List.append_assoc, List.cons_append, List.nil_append] at e
      obtain ⟨c, e⟩ := run_split namC (nm_all a1) (nm_all b1) sp32 sp32 e
      simp only [List.cons.injEq, true_and] at e
      exact ⟨Pr.same ho (ba_ext c) (by rw [a2, b2]) (v0_eq a3 b3) (by rw [a4, b4]) (by rw [a5, b5]) (len0 a6 b6), e⟩
    all_goals omega
  · rcases hq with ⟨h', -⟩ | ⟨h', -⟩ | ⟨h', -⟩ | ⟨h', b1, b2, b3, b4, b5, b6⟩ | ⟨h', -⟩
    · omega
    · omega
    · omega
    · rw [if_neg (by omega), if_neg (by omega), if_neg (by omega), if_pos h, if_neg (by omega), if_neg (by omega), if_neg (by omega), if_pos h'] at e
      simp only [List.append_assoc, List.cons_append, List.nil_append] at e
      obtain ⟨c, e⟩ := run_split namC (nm_all a1) (nm_all b1) sp32 sp32 e
      simp only [List.cons.injEq, true_and] at e
      obtain ⟨c2, e⟩ := quo_split (rU_39 hr) (rU_39 hs) e
      exact ⟨Pr.same ho (ba_ext c) (by rw [a2, b2]) (v0_eq a3 b3) (by rw [a4, b4]) c2 (len0 a6 b6), e⟩
    · omega
  · have h : p.op = 5 := by omega
    have h' : q.op = 5 := by omega
    have b6 := (hd_deep gq.hd (by omega)).2.2.2.2.2.1 h'
    have a6 := a6 h
    rw [if_neg (by omega), if_neg (by omega), if_neg (by omega), if_neg (by omega), if_pos h, if_neg (by omega), if_neg (by omega), if_neg (by omega), if_neg (by omega), if_pos h', h, h'] at e
    have kp := gp.kid
    have kq := gq.kid
    have hkids : p.kids = q.kids ∧ r = s := by
      revert ihU ihO a6 b6 kp kq e
      match p.kids, q.kids with
      | [], _ => intro _ _ _ _ a6; simp at a6
      | _ :: _ :: _, _ => intro _ _ _ _ a6; simp at a6
      | [_], [] => intro _ _ _ b6; simp at b6
      | [_], _ :: _ :: _ => intro _ _ _ b6; simp at b6
      | [k], [j] =>
        intro ihU ihO e _ _ kp kq
        simp only [List.map_cons, List.map_nil, join1, List.cons_append, List.nil_append, List.cons.injEq, true_and] at e
        have bb : ∀ x : Pr, brk 5 x ∨ x.op ≤ 5 := fun x => by
          by_cases hx : 6 ≤ x.op
          · exact .inl (.inl ⟨rfl, hx⟩)
          · exact .inr (by omega)
        obtain ⟨h1, h2⟩ := kid_inj (ihU k (by simp)) (fun _ => ihO k (by simp)) (bb k) (bb j) (kp k (by simp)) (kq j (by simp)) hr hs e
        exact ⟨by rw [h1], h2⟩
    exact ⟨deep_eq gp.hd gq.hd (by omega) ho hkids.1, hkids.2⟩
end
section
set_option maxRecDepth 100000
theorem sep6 : sepL 6 = [32, 97, 110, 100, 32] := rfl
theorem sep7 : sepL 7 = [32, 111, 114, 32] := rfl
def kA (p : Pr) : List Pr := if p.op = 6 then p.kids else [p]
def kO (p : Pr) : List Pr := if p.op = 7 then p.kids else [p]
theorem tx_kA {p : Pr} (h : p.op ≤ 6) : txP p = Lib.join ((kA p).map fun k => parL 6 k.op (txP k)) (sepL 6) := by
  unfold kA
  by_cases h6 : p.op = 6
  · rw [if_pos h6, txP_eq, if_neg (by omega), if_neg (by omega), if_neg (by omega), if_neg (by omega), if_neg (by omega), h6]
    rfl
  · rw [if_neg h6, List.map_cons, List.map_nil, join1]
    unfold parL
    rw [if_neg (by omega)]
theorem tx_kO {p : Pr} : txP p = Lib.join ((kO p).map txP) (sepL 7) := by
  unfold kO
  by_cases h7 : p.op = 7
  · rw [if_pos h7, txP_eq, if_neg (by omega), if_neg (by omega), if_neg (by omega), if_neg (by omega), if_neg (by omega), h7]
    have : (fun k : Pr => parL 7 k.op (txP k)) = txP := by
      funext k
      unfold parL
      rw [if_neg (by omega)]
    rw [this]
    rfl
  · rw [if_neg h7, List.map_cons, List.map_nil, join1]
theorem aq_of (p : Pr) (hU : p.op ≤ 5 → Uq p) (ihU : ∀ x ∈ p.kids, Uq x) (ihO : ∀ x ∈ p.kids, Oq x) : Aq p := by
  intro q r s hp hq gp gq hr hs e
  rw [tx_kA hp, tx_kA hq] at e
  have ne : ∀ {x : Pr}, Gd x → x.op ≤ 6 → kA x ≠ [] := fun {x} g h => by
    unfold kA
    split
    · intro e
      have := (hd_deep g.hd (by omega)).2.2.2.2.2.2 (by omega)
      rw [e] at this
      simp at this
    · simp
  have mem : ∀ {x : Pr}, Gd x → x.op ≤ 6 → ∀ k ∈ kA x, Gd k ∧ (brk 6 k ∨ k.op ≤ 5) := fun {x} g h k hk => by
    unfold kA at hk
    split at hk
    · rename_i h6
      have gk := g.kid k hk
      have h1 := g.nd (by omega) k hk
      have h2 := op_le gk.hd
      refine ⟨gk, ?_⟩
      by_cases h7 : k.op = 7
      · exact .inl (.inr ⟨rfl, h7⟩)
      · exact .inr (by omega)
    · rename_i h6
      obtain rfl : k = x := by simpa using hk
      exact ⟨g, .inr (by omega)⟩
  have un : ∀ k ∈ kA p, Uq k ∧ (brk 6 k → Oq k) := fun k hk => by
    unfold kA at hk
    split at hk
    · exact ⟨ihU k hk, fun _ => ihO k hk⟩
    · rename_i h6
      obtain rfl : k = p := by simpa using hk
      refine ⟨hU (by omega), fun h => ?_⟩
      rcases h with ⟨h, -⟩ | ⟨-, h⟩ <;> omega
  obtain ⟨h1, h2⟩ := join_inj (sepL 6) (fun k => parL 6 k.op (txP k)) (fun k => Gd k ∧ (brk 6 k ∨ k.op ≤ 5)) rA rU (fun _ h => .inl h) (fun t => .inr ⟨t, rfl⟩)
    (fun r t h e => by
      subst e
      rcases h with (h | ⟨t', h⟩ | ⟨t', h⟩) | ⟨t', h⟩
      · cases h
      · rw [sep6] at h; simp at h
      · rw [sep6] at h; simp at h
      · rw [sep6] at h; simp at h)
    (kA p) (kA q) r s (fun k hk j r s gj hr hs e => kid_inj (un k hk).1 (un k hk).2 (mem gp hp k hk).2 gj.2 (mem gp hp k hk).1 gj.1 hr hs e) (mem gq hq) (ne gp hp) (ne gq hq) hr hs e
  refine ⟨?_, h2⟩
  unfold kA at h1
  by_cases hp6 : p.op = 6
  · rw [if_pos hp6] at h1
    by_cases hq6 : q.op = 6
    · rw [if_pos hq6] at h1
      exact deep_eq gp.hd gq.hd (by omega) (by omega) h1
    · rw [if_neg hq6] at h1
      have := (hd_deep gp.hd (by omega)).2.2.2.2.2.2 (by omega)
      rw [h1] at this
      simp at this
  · rw [if_neg hp6] at h1
    by_cases hq6 : q.op = 6
    · rw [if_pos hq6] at h1
      have := (hd_deep gq.hd (by omega)).2.2.2.2.2.2 (by omega)
      rw [← h1] at this
      simp at this
    · rw [if_neg hq6] at h1
      simpa using h1
theorem oq_of (p : Pr) (hA : p.op ≤ 6 → Aq p) (ihA : ∀ x ∈ p.kids, Aq x) : Oq p := by
  intro q r s gp gq hr hs e
  rw [tx_kO (p := p), tx_kO (p := q)] at e
  have ne : ∀ {x : Pr}, Gd x → kO x ≠ [] := fun {x} g => by
    unfold kO
    split
    · intro e
      have := (hd_deep g.hd (by omega)).2.2.2.2.2.2 (by omega)
      rw [e] at this
      simp at this
    · simp
  have mem : ∀ {x : Pr}, Gd x → ∀ k ∈ kO x, Gd k ∧ k.op ≤ 6 := fun {x} g k hk => by
    unfold kO at hk
    split at hk
    · have gk := g.kid k hk
      have h1 := g.nd (by omega) k hk
      have h2 := op_le gk.hd
      exact ⟨gk, by omega⟩
    · obtain rfl : k = x := by simpa using hk
      have h2 := op_le g.hd
      exact ⟨g, by omega⟩
  have un : ∀ k ∈ kO p, Aq k := fun k hk => by
    have h6 := (mem gp k hk).2
    unfold kO at hk
    split at hk
    · exact ihA k hk
    · obtain rfl : k = p := by simpa using hk
      exact hA h6
  obtain ⟨h1, h2⟩ := join_inj (sepL 7) txP (fun k => Gd k ∧ k.op ≤ 6) rO rA (fun _ h => .inl h) (fun t => .inr ⟨t, rfl⟩)
    (fun r t h e => by
      subst e
      rcases h with h | ⟨t', h⟩ | ⟨t', h⟩
      · cases h
      · rw [sep7] at h; simp at h
      · rw [sep7] at h; simp at h)
    (kO p) (kO q) r s (fun k hk j r s gj hr hs e => un k hk j r s (mem gp k hk).2 gj.2 (mem gp k hk).1 gj.1 hr hs e) (mem gq) (ne gp) (ne gq) hr hs e
  refine ⟨?_, h2⟩
  unfold kO at h1
  by_cases hp6 : p.op = 7
  · rw [if_pos hp6] at h1
    by_cases hq6 : q.op = 7
    · rw [if_pos hq6] at h1
      exact deep_eq gp.hd gq.hd (by omega) (by omega) h1
    · rw [if_neg hq6] at h1
      have := (hd_deep gp.hd (by omega)).2.2.2.2.2.2 (by omega)
      rw [h1] at this
      simp at this
  · rw [if_neg hp6] at h1
    by_cases hq6 : q.op = 7
    · rw [if_pos hq6] at h1
      have := (hd_deep gq.hd (by omega)).2.2.2.2.2.2 (by omega)
      rw [← h1] at this
      simp at this
    · rw [if_neg hq6] at h1
      simpa using h1
theorem all_q : ∀ p : Pr, Uq p ∧ Aq p ∧ Oq p :=
  Pr.by_kids fun p ih => by
    have u := uq_of p (fun x hx => (ih x hx).1) (fun x hx => (ih x hx).2.2)
    have a := aq_of p (fun _ => u) (fun x hx => (ih x hx).1) (fun x hx => (ih x hx).2.2)
    exact ⟨u, a, oq_of p (fun _ => a) (fun x hx => (ih x hx).2.1)⟩
/-- Unlike predicates have unlike texts. -/
theorem txP_inj {p q : Pr} (h1 : oneP p = true) (h2 : Rg p) (h3 : oneP q = true) (h4 : Rg q) (h : txP p = txP q) : p = q :=
  ((all_q p).2.2 q [] [] ⟨h1, h2⟩ ⟨h3, h4⟩ (.inl rfl) (.inl rfl) (by rw [h])).1
end
section
set_option maxRecDepth 100000
/-! Queries, plainly: which there may be, and their texts. -/
/-- May an aggregate be? -/
def aggB (a : Ae) : Bool := if a.op = 1 then decide (a.col = e0) else decide (2 ≤ a.op ∧ a.op ≤ 5) && nameB a.col
/-- May a query be? -/
def mayQ (q : Qu) : Bool := nameB q.table && mayP q.whr && (if q.aggs.length = 0 then decide (q.by_ = e0) && decide (q.cols.length ≤ 6) && q.cols.all nameB && decide q.cols.Nodup
  else decide (q.aggs.length ≤ 4) && decide (q.cols.length = 0) && q.aggs.all aggB && (decide (q.by_ = e0) || nameB q.by_))
/-- An aggregate in words. -/
def toldW (op : Int) : List UInt8 := if op = 2 then [104, 97, 115, 40] else if op = 3 then [115, 117, 109, 40] else if op = 4 then [109, 105, 110, 40] else [109, 97, 120, 40]
def toldL (a : Ae) : List UInt8 := if 2 ≤ a.op ∧ a.op ≤ 5 then toldW a.op ++ (bsL a.col ++ [41]) else [99, 111, 117, 110, 116, 40, 42, 41]
/-- What a query asks for, in words. -/
def askL (q : Qu) : List (List UInt8) := q.cols.map bsL ++ q.aggs.map toldL
def selL : List UInt8 := [115, 101, 108, 101, 99, 116, 32]
def fromL : List UInt8 := [32, 102, 114, 111, 109, 32]
def wheL : List UInt8 := [32, 119, 104, 101, 114, 101, 32]
def grpL : List UInt8 := [32, 103, 114, 111, 117, 112, 32, 98, 121, 32]
def askT (q : Qu) : List UInt8 := if askL q = [] then [42] else Lib.join (askL q) [44, 32]
def wheT (q : Qu) : List UInt8 := if q.whr.op = 1 then [] else wheL ++ txP q.whr
def grpT (q : Qu) : List UInt8 := if q.by_ = e0 then [] else grpL ++ bsL q.by_
/-- A query in words. -/
def txQ (q : Qu) : List UInt8 := selL ++ (askT q ++ (fromL ++ (bsL q.table ++ (wheT q ++ grpT q))))
theorem sz_one {p : Pr} (h : mayP p = true) : oneP p = true := by
  unfold mayP at h
  rw [Bool.and_eq_true] at h
  exact h.2
theorem mayQ_tab {q : Qu} (h : mayQ q = true) : nameB q.table = true := by
  unfold mayQ at h
  rw [Bool.and_eq_true, Bool.and_eq_true] at h
  exact h.1.1
theorem mayQ_whr {q : Qu} (h : mayQ q = true) : mayP q.whr = true := by
  unfold mayQ at h
  rw [Bool.and_eq_true, Bool.and_eq_true] at h
  exact h.1.2
/-- What a query asks for: columns, or aggregates. -/
theorem mayQ_ask {q : Qu} (h : mayQ q = true) : (q.aggs = [] ∧ q.by_ = e0 ∧ q.cols.length ≤ 6 ∧ (∀ c ∈ q.cols, nameB c = true) ∧ q.cols.Nodup) ∨ (q.aggs ≠ [] ∧ q.aggs.length ≤ 4 ∧ q.cols = [] ∧ (∀ a ∈ q.aggs, aggB a = true) ∧ (q.by_ = e0 ∨ nameB q.by_ = true)) := by
  unfold mayQ at h
  rw [Bool.and_eq_true] at h
  have h2 := h.2
  by_cases ha : q.aggs.length = 0
  · rw [if_pos ha] at h2
    simp only [Bool.and_eq_true, decide_eq_true_eq, List.all_eq_true] at h2
    exact .inl ⟨List.eq_nil_of_length_eq_zero ha, h2.1.1.1, h2.1.1.2, h2.1.2, h2.2⟩
  · rw [if_neg ha] at h2
    simp only [Bool.and_eq_true, Bool.or_eq_true, decide_eq_true_eq, List.all_eq_true] at h2
    exact .inr ⟨fun e => ha (by rw [e]; rfl), h2.1.1.1, List.eq_nil_of_length_eq_zero h2.1.1.2, h2.1.2, h2.2⟩
end
section
set_option maxRecDepth 100000
/-! Unlike queries have unlike texts. -/
def plainC (x : UInt8) : Bool := x != 44 && x != 32
theorem plain_sep {r : List UInt8} (h : (∃ t, r = 44 :: t) ∨ ∃ t, r = 32 :: t) : ∀ d q, r = d :: q → plainC d = false := by
  intro d q e
  rcases h with ⟨t, rfl⟩ | ⟨t, rfl⟩ <;> (injection e with e _; subst e; rfl)
theorem joinTail_hd (r : List (List UInt8)) (X : List UInt8) : (∃ t, Lib.joinTail [44, 32] r ++ 32 :: X = 44 :: t) ∨ ∃ t, Lib.joinTail [44, 32] r ++ 32 :: X = 32 :: t := by
  cases r with
  | nil => right; exact ⟨X, rfl⟩
  | cons a r => left; exact ⟨32 :: (a ++ (Lib.joinTail [44, 32] r ++ 32 :: X)), by simp [Lib.joinTail]⟩
theorem tail_split : ∀ (l m : List (List UInt8)) (X Y : List UInt8), (∀ a ∈ l, ∀ x ∈ a, plainC x = true) → (∀ a ∈ m, ∀ x ∈ a, plainC x = true) → (∀ d, X.head? = some d → d ≠ 32) → Lib.joinTail [44, 32] l ++ 32 :: X = Lib.joinTail [44, 32] m ++ 32 :: Y → l = m ∧ X = Y
  | [], [], X, Y, _, _, _, h => by
    refine ⟨rfl, ?_⟩
    simpa [Lib.joinTail] using h
  | [], b :: m, X, Y, _, _, _, h => by simp [Lib.joinTail] at h
  | a :: l, [], X, Y, _, _, _, h => by simp [Lib.joinTail] at h
  | a :: l, b :: m, X, Y, ha, hb, hX, h => by
    have h1 : a ++ (Lib.joinTail [44, 32] l ++ 32 :: X) = b ++ (Lib.joinTail [44, 32] m ++ 32 :: Y) := by simpa [Lib.joinTail] using h
    obtain ⟨e1, e2⟩ := run_split plainC (ha a (by simp)) (hb b (by simp)) (plain_sep (joinTail_hd l X)) (plain_sep (joinTail_hd m Y)) h1
    obtain ⟨e3, e4⟩ := tail_split l m X Y (fun x hx => ha x (by simp [hx])) (fun x hx => hb x (by simp [hx])) hX e2
    exact ⟨by rw [e1, e3], e4⟩
theorem join_split {l m : List (List UInt8)} {X Y : List UInt8} (hl : l ≠ []) (hm : m ≠ []) (ha : ∀ a ∈ l, ∀ x ∈ a, plainC x = true) (hb : ∀ a ∈ m, ∀ x ∈ a, plainC x = true) (hX : ∀ d, X.head? = some d → d ≠ 32) (h : Lib.join l [44, 32] ++ 32 :: X = Lib.join m [44, 32] ++ 32 :: Y) : l = m ∧ X = Y := by
  match l, m, hl, hm with
  | a :: l, b :: m, _, _ =>
    rw [Lib.join_cons, Lib.join_cons, List.append_assoc, List.append_assoc] at h
    obtain ⟨e1, e2⟩ := run_split plainC (ha a (by simp)) (hb b (by simp)) (plain_sep (joinTail_hd l X)) (plain_sep (joinTail_hd m Y)) h
    obtain ⟨e3, e4⟩ := tail_split l m X Y (fun x hx => ha x (by simp [hx])) (fun x hx => hb x (by simp [hx])) hX e2
    exact ⟨by rw [e1, e3], e4⟩
theorem nam_plain {x : UInt8} (h : namC x = true) : plainC x = true := by
  unfold plainC
  rw [Bool.and_eq_true, bne_iff_ne, bne_iff_ne]
  constructor <;> (rintro rfl; revert h; decide)
theorem nam_40 {x : UInt8} (h : namC x = true) : x ≠ 40 ∧ x ≠ 42 := by
  constructor <;> (rintro rfl; revert h; decide)
theorem toldW_plain (o : Int) : ∀ x ∈ toldW o, plainC x = true := by
  have h1 : ∀ x ∈ ([104, 97, 115, 40] : List UInt8), plainC x = true := by decide
  have h2 : ∀ x ∈ ([115, 117, 109, 40] : List UInt8), plainC x = true := by decide
  have h3 : ∀ x ∈ ([109, 105, 110, 40] : List UInt8), plainC x = true := by decide
  have h4 : ∀ x ∈ ([109, 97, 120, 40] : List UInt8), plainC x = true := by decide
  unfold toldW
  split
  · exact h1
  · split
    · exact h2
    · split
      · exact h3
      · exact h4
theorem told_plain {a : Ae} (h : aggB a = true) : ∀ x ∈ toldL a, plainC x = true := by
  have h0 : ∀ x ∈ ([99, 111, 117, 110, 116, 40, 42, 41] : List UInt8), plainC x = true := by decide
  unfold toldL
  split
  · rename_i hop
    unfold aggB at h
    rw [if_neg (by omega), Bool.and_eq_true] at h
    intro x hx
    rcases List.mem_append.1 hx with hx | hx
    · exact toldW_plain _ x hx
    · rcases List.mem_append.1 hx with hx | hx
      · exact nam_plain (nm_all h.2 x hx)
      · rcases List.mem_singleton.1 hx with rfl; rfl
  · exact h0
theorem told_40 (a : Ae) : (40 : UInt8) ∈ toldL a := by
  unfold toldL toldW
  repeat' split
  all_goals simp
theorem told_inj {a b : Ae} (ha : aggB a = true) (hb : aggB b = true) (h : toldL a = toldL b) : a = b := by
  obtain ⟨o, c⟩ := a
  obtain ⟨o', c'⟩ := b
  unfold aggB at ha hb
  dsimp only at ha hb
  have hx : ∀ (o : Int) (c : ByteArray), (if o = 1 then decide (c = e0) else decide (2 ≤ o ∧ o ≤ 5) && nameB c) = true → (o = 1 ∧ c = e0) ∨ (2 ≤ o ∧ o ≤ 5 ∧ nameB c = true) := by
    intro o c h
    by_cases h1 : o = 1
    · rw [if_pos h1, decide_eq_true_eq] at h
      exact .inl ⟨h1, h⟩
    · rw [if_neg h1, Bool.and_eq_true, decide_eq_true_eq] at h
      exact .inr ⟨h.1.1, h.1.2, h.2⟩
  have key : ∀ (o o' : Int) (c c' : ByteArray), 2 ≤ o → o ≤ 5 → 2 ≤ o' → o' ≤ 5 → toldW o ++ (bsL c ++ [41]) = toldW o' ++ (bsL c' ++ [41]) → o = o' ∧ c = c' := by
    intro o o' c c' h1 h2 h3 h4 h
    have e1 : o = 2 ∨ o = 3 ∨ o = 4 ∨ o = 5 := by omega
    have e2 : o' = 2 ∨ o' = 3 ∨ o' = 4 ∨ o' = 5 := by omega
    rcases e1 with rfl | rfl | rfl | rfl <;> rcases e2 with rfl | rfl | rfl | rfl <;> simp [toldW] at h ⊢
    all_goals exact ba_ext (congrArg Array.toList h)
  have h2 : ∀ (o : Int) (c : ByteArray), 2 ≤ o → o ≤ 5 → toldW o ++ (bsL c ++ [41]) ≠ [99, 111, 117, 110, 116, 40, 42, 41] := by
    intro o c h1 h2 h
    have e1 : o = 2 ∨ o = 3 ∨ o = 4 ∨ o = 5 := by omega
    rcases e1 with rfl | rfl | rfl | rfl <;> simp [toldW] at h
  unfold toldL at h
  dsimp only at h
  rcases hx o c ha with ⟨rfl, rfl⟩ | ⟨a1, a2, -⟩
  · rcases hx o' c' hb with ⟨rfl, rfl⟩ | ⟨b1, b2, -⟩
    · rfl
    · rw [if_neg (by omega), if_pos ⟨b1, b2⟩] at h
      exact absurd h.symm (h2 o' c' b1 b2)
  · rcases hx o' c' hb with ⟨rfl, rfl⟩ | ⟨b1, b2, -⟩
    · rw [if_pos ⟨a1, a2⟩, if_neg (by omega)] at h
      exact absurd h (h2 o c a1 a2)
    · rw [if_pos ⟨a1, a2⟩, if_pos ⟨b1, b2⟩] at h
      obtain ⟨rfl, rfl⟩ := key o o' c c' a1 a2 b1 b2 h
      rfl
/-- What is asked for, with the star. -/
def askE (q : Qu) : List (List UInt8) := if askL q = [] then [[42]] else askL q
theorem askT_eq (q : Qu) : askT q = Lib.join (askE q) [44, 32] := by
  unfold askT askE
  split
  · rw [Lib.join_one]
  · rfl
theorem askE_ne (q : Qu) : askE q ≠ [] := by
  unfold askE
  split
  · simp
  · assumption
theorem map_inj {α β : Type} (f : α → β) : ∀ (l m : List α), (∀ x ∈ l, ∀ y ∈ m, f x = f y → x = y) → l.map f = m.map f → l = m
  | [], [], _, _ => rfl
  | [], _ :: _, _, h => by simp at h
  | _ :: _, [], _, h => by simp at h
  | a :: l, b :: m, hf, h => by
    simp only [List.map_cons, List.cons.injEq] at h
    rw [hf a (by simp) b (by simp) h.1, map_inj f l m (fun x hx y hy => hf x (by simp [hx]) y (by simp [hy])) h.2]
theorem askE_plain {q : Qu} (h : mayQ q = true) : ∀ a ∈ askE q, ∀ x ∈ a, plainC x = true := by
  intro a ha
  unfold askE at ha
  split at ha
  · rcases List.mem_singleton.1 ha with rfl
    decide
  · unfold askL at ha
    rcases List.mem_append.1 ha with ha | ha
    · obtain ⟨c, hc, rfl⟩ := List.mem_map.1 ha
      rcases mayQ_ask h with ⟨-, -, -, hn, -⟩ | ⟨-, -, h0, -⟩
      · exact fun x hx => nam_plain (nm_all (hn c hc) x hx)
      · rw [h0] at hc; cases hc
    · obtain ⟨c, hc, rfl⟩ := List.mem_map.1 ha
      rcases mayQ_ask h with ⟨h0, -⟩ | ⟨-, -, -, hn, -⟩
      · rw [h0] at hc; cases hc
      · exact told_plain (hn c hc)
/-- Of columns: names, or the star. -/
theorem askE_cols {q : Qu} (h : q.aggs = []) (hn : ∀ c ∈ q.cols, nameB c = true) : (q.cols = [] ∧ askE q = [[42]]) ∨ (q.cols ≠ [] ∧ askE q = q.cols.map bsL) := by
  unfold askE askL
  rw [h, List.map_nil, List.append_nil]
  by_cases hc : q.cols = []
  · left; rw [hc]; exact ⟨rfl, rfl⟩
  · right; rw [if_neg (by simpa using hc)]; exact ⟨hc, rfl⟩
theorem askE_aggs {q : Qu} (h : q.aggs ≠ []) (hc : q.cols = []) : askE q = q.aggs.map toldL := by
  unfold askE askL
  rw [hc, List.map_nil, List.nil_append, if_neg (by simpa using h)]
theorem cols_no40 {q : Qu} (h : q.aggs = []) (hn : ∀ c ∈ q.cols, nameB c = true) : ∀ a ∈ askE q, (40 : UInt8) ∉ a := by
  intro a ha h40
  rcases askE_cols h hn with ⟨-, e⟩ | ⟨-, e⟩
  · rw [e] at ha
    rcases List.mem_singleton.1 ha with rfl
    revert h40; decide
  · rw [e] at ha
    obtain ⟨c, hc, rfl⟩ := List.mem_map.1 ha
    exact (nam_40 (nm_all (hn c hc) _ h40)).1 rfl
theorem ask_inj {q r : Qu} (hq : mayQ q = true) (hr : mayQ r = true) (h : askE q = askE r) : q.cols = r.cols ∧ q.aggs = r.aggs := by
  rcases mayQ_ask hq with ⟨q1, -, -, q2, -⟩ | ⟨q1, -, q3, q4, -⟩
  · rcases mayQ_ask hr with ⟨r1, -, -, r2, -⟩ | ⟨r1, -, r3, r4, -⟩
    · refine ⟨?_, by rw [q1, r1]⟩
      rcases askE_cols q1 q2 with ⟨c0, e0⟩ | ⟨c0, e0⟩
      · rcases askE_cols r1 r2 with ⟨d0, f0⟩ | ⟨d0, f0⟩
        · rw [c0, d0]
        · exfalso
          rw [e0, f0] at h
          have hm : [42] ∈ r.cols.map bsL := by rw [← h]; simp
          obtain ⟨c, hc, he⟩ := List.mem_map.1 hm
          exact (nam_40 (nm_all (r2 c hc) 42 (by rw [he]; simp))).2 rfl
      · rcases askE_cols r1 r2 with ⟨d0, f0⟩ | ⟨d0, f0⟩
        · exfalso
          rw [e0, f0] at h
          have hm : [42] ∈ q.cols.map bsL := by rw [h]; simp
          obtain ⟨c, hc, he⟩ := List.mem_map.1 hm
          exact (nam_40 (nm_all (q2 c hc) 42 (by rw [he]; simp))).2 rfl
        · rw [e0, f0] at h
          exact map_inj bsL _ _ (fun x _ y _ e => ba_ext e) h
    · exfalso
      have hn := cols_no40 q1 q2
      rw [h, askE_aggs r1 r3] at hn
      match hl : r.aggs, r1 with
      | a :: l, _ => exact hn (toldL a) (by rw [hl]; simp) (told_40 a)
  · rcases mayQ_ask hr with ⟨r1, -, -, r2, -⟩ | ⟨r1, -, r3, r4, -⟩
    · exfalso
      have hn := cols_no40 r1 r2
      rw [← h, askE_aggs q1 q3] at hn
      match hl : q.aggs, q1 with
      | a :: l, _ => exact hn (toldL a) (by rw [hl]; simp) (told_40 a)
    · rw [askE_aggs q1 q3, askE_aggs r1 r3] at h
      exact ⟨by rw [q3, r3], map_inj toldL _ _ (fun x hx y hy e => told_inj (q4 x hx) (r4 y hy) e) h⟩
theorem grp_cases (q : Qu) : (q.by_ = e0 ∧ grpT q = []) ∨ (q.by_ ≠ e0 ∧ grpT q = grpL ++ bsL q.by_) := by
  unfold grpT
  by_cases h : q.by_ = e0
  · exact .inl ⟨h, if_pos h⟩
  · exact .inr ⟨h, if_neg h⟩
theorem grp_rO (q : Qu) : rO (grpT q) := by
  rcases grp_cases q with ⟨-, h⟩ | ⟨-, h⟩
  · rw [h]; exact .inl rfl
  · rw [h]; exact .inr (.inr ⟨_, rfl⟩)
theorem grp_inj {q r : Qu} (h : grpT q = grpT r) : q.by_ = r.by_ := by
  rcases grp_cases q with ⟨h1, h2⟩ | ⟨h1, h2⟩ <;> rcases grp_cases r with ⟨h3, h4⟩ | ⟨h3, h4⟩
  · rw [h1, h3]
  · rw [h2, h4] at h
    simp [grpL] at h
  · rw [h2, h4] at h
    simp [grpL] at h
  · rw [h2, h4] at h
    exact ba_ext (List.append_cancel_left h)
theorem rest_hd (q : Qu) : ∀ d t, wheT q ++ grpT q = d :: t → namC d = false := by
  intro d t h
  unfold wheT at h
  split at h
  · rcases grp_cases q with ⟨-, e⟩ | ⟨-, e⟩
    · rw [e] at h; cases h
    · rw [e] at h; injection h with h _; subst h; rfl
  · injection h with h _; subst h; rfl
theorem txQ_inj {q r : Qu} (hq : mayQ q = true) (gq : Rg q.whr) (hr : mayQ r = true) (gr : Rg r.whr) (h : txQ q = txQ r) : q = r := by
  unfold txQ at h
  have h1 := List.append_cancel_left h
  rw [askT_eq, askT_eq] at h1
  have hf : ∀ X : List UInt8, fromL ++ X = 32 :: ([102, 114, 111, 109, 32] ++ X) := fun X => rfl
  rw [hf, hf] at h1
  obtain ⟨e1, e2⟩ := join_split (X := [102, 114, 111, 109, 32] ++ (bsL q.table ++ (wheT q ++ grpT q))) (Y := [102, 114, 111, 109, 32] ++ (bsL r.table ++ (wheT r ++ grpT r))) (askE_ne q) (askE_ne r) (askE_plain hq) (askE_plain hr) (by intro d hd; simp at hd; subst hd; decide) h1
  obtain ⟨hc, ha⟩ := ask_inj hq hr e1
  have h2 := List.append_cancel_left e2
  obtain ⟨ht, h3⟩ := run_split namC (nm_all (mayQ_tab hq)) (nm_all (mayQ_tab hr)) (rest_hd q) (rest_hd r) h2
  have ho : oneP q.whr = true := (sz_one (mayQ_whr hq))
  have ho' : oneP r.whr = true := (sz_one (mayQ_whr hr))
  have tx1 : ∀ p : Pr, p.op = 1 → txP p = [97, 108, 108] := fun p h => by rw [txP_eq, if_pos h]
  have hw : q.whr = r.whr ∧ grpT q = grpT r := by
    unfold wheT at h3
    by_cases c1 : q.whr.op = 1
    · by_cases c2 : r.whr.op = 1
      · rw [if_pos c1, if_pos c2, List.nil_append, List.nil_append] at h3
        exact ⟨txP_inj ho gq ho' gr (by rw [tx1 _ c1, tx1 _ c2]), h3⟩
      · exfalso
        rw [if_pos c1, if_neg c2, List.nil_append] at h3
        rcases grp_cases q with ⟨-, e⟩ | ⟨-, e⟩ <;> (rw [e] at h3; simp [grpL, wheL] at h3)
    · by_cases c2 : r.whr.op = 1
      · exfalso
        rw [if_neg c1, if_pos c2, List.nil_append] at h3
        rcases grp_cases r with ⟨-, e⟩ | ⟨-, e⟩ <;> (rw [e] at h3; simp [grpL, wheL] at h3)
      · rw [if_neg c1, if_neg c2, List.append_assoc, List.append_assoc] at h3
        exact (all_q q.whr).2.2 r.whr _ _ ⟨ho, gq⟩ ⟨ho', gr⟩ (grp_rO q) (grp_rO r) (List.append_cancel_left h3)
  have hb := grp_inj hw.2
  obtain ⟨t, c, w, a, b⟩ := q
  obtain ⟨t', c', w', a', b'⟩ := r
  have ht' : t = t' := ba_ext ht
  obtain ⟨hw1, -⟩ := hw
  dsimp only at hc ha hb hw1
  subst ht' hc ha hb hw1
  rfl
end
section
set_option maxRecDepth 100000
/-! Sorted, and neighbours that are the same left out: are there as many as before? -/
theorem keep_all {α : Type} [Inhabited α] [DecidableEq α] (zs : List α) : (Lib.compact zs).length = zs.length ↔ ∀ j, j < zs.length → Lib.keeps zs.toArray j = true := by
  constructor
  · intro h j hj
    unfold Lib.compact Lib.compactUpTo at h
    rw [List.length_map] at h
    have h2 : ((List.range zs.length).filter (Lib.keeps zs.toArray)).length = (List.range zs.length).length := by rw [h, List.length_range]
    exact List.length_filter_eq_length_iff.1 h2 j (List.mem_range.2 hj)
  · intro h
    rw [Lib.compact_all zs h]
abbrev leB8 (x y : List UInt8) : Bool := decide (x ≤ y)
theorem sort_pair (l : List (List UInt8)) : (l.mergeSort leB8).Pairwise fun a b => leB8 a b = true :=
  List.pairwise_mergeSort (fun a b c (h1 : decide (a ≤ b) = true) (h2 : decide (b ≤ c) = true) => (decide_eq_true (List.le_trans (of_decide_eq_true h1) (of_decide_eq_true h2)) : decide (a ≤ c) = true)) (fun a b => by
    rw [Bool.or_eq_true, decide_eq_true_eq, decide_eq_true_eq]
    exact List.le_total a b) l
theorem pair_nodup : ∀ (l : List (List UInt8)), l.Pairwise (fun a b => leB8 a b = true) → (∀ j, j < l.length → Lib.keeps l.toArray j = true) → l.Nodup := by
  intro l hp hk
  rw [List.nodup_iff_pairwise_ne, List.pairwise_iff_getElem]
  intro i j hi hj hij he
  have h1 : l[i + 1]'(by omega) = l[i] := by
    have p := List.pairwise_iff_getElem.1 hp
    have a1 := of_decide_eq_true (p i (i + 1) hi (by omega) (by omega))
    by_cases hij2 : i + 1 = j
    · subst hij2
      exact he.symm
    · have a2 := of_decide_eq_true (p (i + 1) j (by omega) hj (by omega))
      rw [← he] at a2
      exact List.le_antisymm a2 a1
  have h2 := hk (i + 1) (by omega)
  unfold Lib.keeps at h2
  rw [decide_eq_true_eq] at h2
  rcases h2 with h2 | h2
  · omega
  · apply h2
    rw [getElem!_pos _ _ (by simpa using (show i + 1 < l.length by omega)), Nat.add_sub_cancel, getElem!_pos _ _ (by simpa using hi)]
    simpa using h1
theorem nodup_keep (l : List (List UInt8)) (h : l.Nodup) (j : Nat) (hj : j < l.length) : Lib.keeps l.toArray j = true := by
  by_cases h0 : j = 0
  · subst h0
    exact Lib.keeps_lt_one _ 0 (by omega)
  · refine Lib.keeps_pos fun e => ?_
    rw [getElem!_pos _ _ (by simpa using hj), getElem!_pos _ _ (by simpa using (show j - 1 < l.length by omega))] at e
    have h2 := List.pairwise_iff_getElem.1 (List.nodup_iff_pairwise_ne.1 h) (j - 1) j (by omega) hj (by omega)
    exact h2 (by simpa using e.symm)
/-- Each stands there once, if sorting and leaving out leaves as many. -/
theorem once_iff (l : List (List UInt8)) : (Lib.compact (l.mergeSort leB8)).length = l.length ↔ l.Nodup := by
  have hp : (l.mergeSort leB8).Perm l := List.mergeSort_perm l leB8
  rw [← hp.length_eq, keep_all]
  constructor
  · intro h
    exact hp.nodup_iff.1 (pair_nodup _ (sort_pair l) h)
  · intro h j hj
    exact nodup_keep _ (hp.nodup_iff.2 h) j hj
theorem nodup_bs (l : List ByteArray) : (l.map bsL).Nodup ↔ l.Nodup := by
  rw [List.nodup_iff_pairwise_ne, List.nodup_iff_pairwise_ne, List.pairwise_map]
  constructor
  · exact fun h => h.imp fun h e => h (by rw [e])
  · exact fun h => h.imp fun h e => h (ba_ext e)
end
section
set_option maxRecDepth 100000
/-! The law's own Value; names' rows. -/
theorem c65 (ty : Int) (cn : Bool) (ci : Int) (cs : ByteArray) (h0 : -9223372036854775808 ≤ ci) (h1 : ci ≤ 9223372036854775807) (hs : cs.size ≤ 1000) : PC Tryz.prog 65 [A.int .i64 ty, .agg [xB cn, xI ci, xS cs]] [] (fun r bx => r = A.str (ofL (valS ty ⟨cn, ci, cs⟩)) ∧ bx = []) := by
  refine enter (rs := [.tmp 4]) mx Tryz.func65 Tryz.ntmps65 fun Q0 hQ0 => ?_
  refine sq fun _ _ => ?_
  refine rg (sg ?_)
  refine nx ?_
  refine sq fun _ _ => ?_
  refine bl ?_
  refine sq fun _ _ => ?_
  refine rg (sg ?_)
  refine nx ?_
  refine cb (fun g1 => ?_) (fun g1 => ?_)
  · refine sq fun _ _ => ?_
    refine rg (sg ?_)
    refine nx ?_
    refine rt (sg ?_)
    refine f1 (g := sg ?_)
    exact ax [] ⟨congrArg (fun l => A.str (ofL l)) (by simp [valS, g1]), rfl⟩
  · refine sq fun _ _ => ?_
    refine rg (sg ?_)
    refine nx ?_
    refine cb (fun g2 => ?_) (fun g2 => ?_)
    · refine sq fun _ _ => ?_
      refine rg (sg ?_)
      refine cl [] (sg ?_)
      refine (c81 _ (by first | assumption | omega | trivial | rfl) (by first | assumption | omega | trivial | rfl)).mono ?_
      rintro r bx ⟨rfl, rfl⟩
      refine sg ?_
      refine nx ?_
      refine rt (sg ?_)
      refine f1 (g := sg ?_)
      exact ax [] ⟨congrArg (fun l => A.str (ofL l)) (by simp [valS, g1, g2]), rfl⟩
    · refine sq fun _ _ => ?_
      refine rg (sg ?_)
      refine nx ?_
      refine cb (fun g3 => ?_) (fun g3 => ?_)
      · refine sq fun _ _ => ?_
        refine rg (sg ?_)
        refine cl [] (sg ?_)
        refine (c66 _ (by first | assumption | omega | trivial | rfl)).mono ?_
        rintro r bx ⟨rfl, rfl⟩
        refine sg ?_
        refine nx ?_
        refine rt (sg ?_)
        refine f1 (g := sg ?_)
        exact ax [] ⟨congrArg (fun l => A.str (ofL l)) (by simp [valS, g1, g2, g3]; rfl), rfl⟩
      · refine sq fun _ _ => ?_
        refine rg (sg ?_)
        refine nx ?_
        refine cb (fun g4 => ?_) (fun g4 => ?_)
        · refine sq fun _ _ => ?_
          refine rg (sg ?_)
          refine nx ?_
          refine rt (sg ?_)
          refine f1 (g := sg ?_)
          exact ax [] ⟨congrArg (fun l => A.str (ofL l)) (by simp [valS, g1, g2, g3, g4.1, g4.2]), rfl⟩
        · refine sq fun _ _ => ?_
          refine rg (sg ?_)
          refine nx ?_
          refine cb (fun g5 => ?_) (fun g5 => ?_)
          · have g6 : ci = 0 := Classical.byContradiction fun h => g4 ⟨g5, h⟩
            refine sq fun _ _ => ?_
            refine rg (sg ?_)
            refine nx ?_
            refine rt (sg ?_)
            refine f1 (g := sg ?_)
            exact ax [] ⟨congrArg (fun l => A.str (ofL l)) (by simp [valS, g1, g2, g3, g5, g6]), rfl⟩
          · refine sk (sg ?_)
            refine nx ?_
            refine sq fun _ _ => ?_
            refine rg (sg ?_)
            refine nx ?_
            refine rt ?_
            refine f1 (g := sg ?_)
            exact ax [] ⟨congrArg (fun l => A.str (ofL l)) (by simp [valS, g1, g2, g3, g5]), rfl⟩
end
section
set_option maxRecDepth 100000
/-! Names' rows: are two the same; the columns in a predicate. -/
theorem c22 (l m : List ByteArray) (hl : l.length ≤ 1000) (hm : m.length ≤ 1000) : PC Tryz.prog 22 [xRow l.length 1 (elemsOf (l.map cSt)), xRow m.length 1 (elemsOf (m.map cSt))] [] (fun r bx => r = A.bool (decide (l = m)) ∧ bx = []) := by
  refine enter (rs := [.tmp 4]) mx Tryz.func22 Tryz.ntmps22 fun Q0 hQ0 => ?_
  refine sq fun _ _ => ?_
  refine rg (sg ?_)
  refine nx ?_
  refine sq fun _ _ => ?_
  refine sq fun _ _ => ?_
  refine rg (sg ?_)
  refine nx ?_
  refine cb (fun h0 => ?_) (fun h0 => ?_)
  · refine sq fun _ _ => ?_
    refine rg (sg ?_)
    refine nx ?_
    refine rt (sg ?_)
    refine f1 (g := sg ?_)
    exact ax [] ⟨congrArg A.bool (decide_eq_false fun h => h0 (by rw [h])).symm, rfl⟩
  · have hlm : l.length = m.length := by omega
    refine sk (sg ?_)
    refine nx ?_
    refine sq fun _ _ => ?_
    refine sq fun _ _ => ?_
    refine rg (sg ?_)
    refine nx ?_
    refine bl ?_
    refine lp [0, 1, 5] [] (fun k σ => ∃ i : Nat, k = l.length - i ∧ i ≤ l.length ∧ (∀ (j : Nat) (h1 : j < l.length) (h2 : j < m.length), j < i → l[j] = m[j]) ∧ σ = ⟨26, 0, [(0, xRow l.length 1 (elemsOf (List.map cSt l))), (1, xRow m.length 1 (elemsOf (List.map cSt m))), (5, A.int .i64 i)], []⟩) l.length ?_ ?_
    · exact ⟨0, by omega, by omega, fun j h h2 h3 => absurd h3 (Nat.not_lt_zero _), keq⟩
    · rintro k σ' ⟨i, hk, hi, hw, rfl⟩ Q1 hQ1
      refine sq fun _ _ => ?_
      refine sq fun _ _ => ?_
      refine rg (sg ?_)
      refine nx ?_
      refine cb (fun h => ?_) (fun h => ?_)
      · have hin : i < l.length := by omega
        have him : i < m.length := by omega
        have hwi : IntKind.i64.wrap ((i : Int) + 1) = ((i + 1 : Nat) : Int) := wrap_succ (by omega)
        have he := el_at (f := cSt) hin
        have he2 := el_at (f := cSt) him
        refine sk (sg ?_)
        refine nx ?_
        refine sq fun _ _ => ?_
        refine bl ?_
        refine sq fun _ _ => ?_
        refine dr [.take 0, .take 1, .take 2, .take 3, .take 4, .take 5, .take 6, .take 7, .take 8] [] (sg ?_)
        refine and_assoc.2 ?_
        refine And.intro (by first | assumption | omega | rfl | trivial) ?_
        refine And.intro (by first | assumption | omega | rfl | trivial) ?_
        refine and_assoc.2 ?_
        refine And.intro (by first | assumption | omega | rfl | trivial) ?_
        refine And.intro (by first | assumption | omega | rfl | trivial) ?_
        simp (disch := omega) only [el_at]
        refine sg ?_
        refine nx ?_
        refine cb (fun h2 => ?_) (fun h2 => ?_)
        · have hne : l ≠ m := fun e => h2 (by subst e; rfl)
          refine sq fun _ _ => ?_
          refine rg (sg ?_)
          refine nx ?_
          refine rt (sg ?_)
          refine lr (g := sg ?_)
          refine f1 (g := sg ?_)
          exact ax [] ⟨congrArg A.bool (decide_eq_false hne).symm, rfl⟩
        · have h3 : l[i] = m[i] := Classical.byContradiction fun h => h2 h
          have hw2 : ∀ (j : Nat) (h1 : j < l.length) (h2 : j < m.length), j < i + 1 → l[j] = m[j] := by
            intro j h1 h2 h4
            by_cases hji : j = i
            · subst hji
              exact h3
            · exact hw j h1 h2 (by omega)
          refine sk (sg ?_)
          refine nx ?_
          refine rg (sg ?_)
          simp (disch := omega) only [wrap_succ]
          refine ln (l.length - (i + 1)) [] ?_ ?_
          · omega
          exact ⟨i + 1, by omega, by omega, hw2, keq⟩
      · have hall : l = m := List.ext_getElem hlm fun j h1 h2 => hw j h1 h2 (by omega)
        refine xt (sg ?_)
        refine lx (g := sg ?_)
        refine nx ?_
        refine sq fun _ _ => ?_
        refine rg (sg ?_)
        refine nx ?_
        refine rt ?_
        refine f1 (g := sg ?_)
        exact ax [] ⟨congrArg A.bool (decide_eq_true hall).symm, rfl⟩
end
section
set_option maxRecDepth 100000
/-! The columns in a predicate, in order, each once. -/
def addC (l : List ByteArray) (c : ByteArray) : List ByteArray := if c ≠ e0 ∧ (l.any fun x => decide (x = c)) = false then l ++ [c] else l
mutual
def colsP : Pr → List ByteArray → List ByteArray
  | .mk _ c _ _ _ _ ks, l => colsL ks (addC l c)
def colsL : List Pr → List ByteArray → List ByteArray
  | [], l => l
  | k :: r, l => colsL r (colsP k l)
end
theorem colsP_eq (p : Pr) (l : List ByteArray) : colsP p l = colsL p.kids (addC l p.col) := by
  obtain ⟨o, c, m, v, k, pt, ks⟩ := p
  rw [colsP]
  rfl
theorem colsL_cons (k : Pr) (r : List Pr) (l : List ByteArray) : colsL (k :: r) l = colsL r (colsP k l) := by rw [colsL]
theorem colsL_nil (l : List ByteArray) : colsL [] l = l := by rw [colsL]
theorem any_mem (l : List ByteArray) (c : ByteArray) : (l.any fun x => decide (x = c)) = true ↔ c ∈ l := by
  rw [List.any_eq_true]
  simp
theorem addC_no {l : List ByteArray} {c : ByteArray} (h : ¬ (c ≠ e0 ∧ ¬ c ∈ l)) : addC l c = l := by
  unfold addC
  refine if_neg fun h2 => h ⟨h2.1, fun h3 => ?_⟩
  rw [(any_mem l c).2 h3] at h2
  exact absurd h2.2 (by decide)
theorem addC_yes {l : List ByteArray} {c : ByteArray} (h : c ≠ e0 ∧ ¬ c ∈ l) : addC l c = l ++ [c] := by
  unfold addC
  refine if_pos ⟨h.1, ?_⟩
  cases h3 : l.any fun x => decide (x = c)
  · rfl
  · exact absurd ((any_mem l c).1 h3) h.2
theorem addC_len (l : List ByteArray) (c : ByteArray) : (addC l c).length ≤ l.length + 1 := by
  unfold addC
  split <;> simp
theorem addC_ge (l : List ByteArray) (c : ByteArray) : l.length ≤ (addC l c).length := by
  unfold addC
  split <;> simp
theorem colsL_len (m : Nat) : ∀ (ks : List Pr), (∀ k ∈ ks, ∀ l, (colsP k l).length ≤ l.length + k.cnt ∧ l.length ≤ (colsP k l).length) → ∀ l, (colsL ks l).length ≤ l.length + cnts ks ∧ l.length ≤ (colsL ks l).length
  | [], _, l => by rw [colsL_nil]; simp [cnts]
  | k :: r, h, l => by
    rw [colsL_cons]
    have h1 := h k (by simp) l
    have h2 := colsL_len m r (fun x hx => h x (by simp [hx])) (colsP k l)
    simp only [cnts]
    omega
theorem colsP_len : ∀ (p : Pr) (l : List ByteArray), (colsP p l).length ≤ l.length + p.cnt ∧ l.length ≤ (colsP p l).length := by
  refine Pr.by_kids fun p ih l => ?_
  rw [colsP_eq]
  have h1 := addC_len l p.col
  have h2 := addC_ge l p.col
  have h3 := colsL_len 0 p.kids (fun k hk => ih k hk) (addC l p.col)
  have h4 := cnt_eq p
  omega
theorem lc_sub (x : List C) (bx : List B) (ρ : Nat → Option Nat) : (lc x).map (subL bx ρ) = lc x := by
  unfold lc
  rw [List.map_map]
  rfl
theorem arr_sub {α : Type} (l : List α) (f : α → List C) (bx : List B) (ρ : Nat → Option Nat) (sz : Nat) (t : TypeId) : mapB (subL bx ρ) (.arr (l.map fun x => lc (f x)) sz t) = .arr (l.map fun x => lc (f x)) sz t := by
  show B.arr ((l.map fun x => lc (f x)).map fun e => e.map (subL bx ρ)) sz t = _
  rw [List.map_map]
  congr 1
  exact List.map_congr_left fun x _ => lc_sub (f x) bx ρ
theorem arr_sub1 (x : List C) (bx : List B) (ρ : Nat → Option Nat) (sz : Nat) (t : TypeId) : mapB (subL bx ρ) (.arr [lc x] sz t) = .arr [lc x] sz t := arr_sub [x] (fun x => x) bx ρ sz t
theorem own_at {α : Type} {l : List α} {i : Nat} (f : α → List C) (h : i < l.length) : (l.map fun x => lc (f x)).getD i [] = lc (f l[i]) := by
  rw [List.getD_eq_getElem?_getD, List.getElem?_map, List.getElem?_eq_getElem h]
  rfl
end
section
set_option maxRecDepth 100000
open Go.Sort
/-! Contracts of the library that turn an own row of texts. -/
theorem put_world {w : World} {g n : Nat} {os : Array Obj} {d : Array (List UInt8)} {cs : Array Value} {t : TypeId} (hg : w.heap[g]? = some (.cells cs t (0, 0))) :
    (grow (putRow encStr (Sort.ahead w n) g 0 d) os).heap[g]? = some (.cells (putCells encStr 0 d cs) t (0, 0)) ∧
    (∀ k, k < w.heap.size → k ≠ g → (grow (putRow encStr (Sort.ahead w n) g 0 d) os).heap[k]? = w.heap[k]?) ∧ w.heap.size ≤ (grow (putRow encStr (Sort.ahead w n) g 0 d) os).heap.size := by
  have hlt : g < w.heap.size := by
    rcases Nat.lt_or_ge g w.heap.size with h | h
    · exact h
    · rw [Array.getElem?_eq_none h] at hg; cases hg
  have e : (grow (putRow encStr (Sort.ahead w n) g 0 d) os).heap = w.heap.modify g (onCells (putCells encStr 0 d)) ++ os := rfl
  rw [e]
  refine ⟨?_, fun k hk hne => ?_, by simp⟩
  · rw [Array.getElem?_append_left (by simpa using hlt), Array.getElem?_modify, if_pos rfl, hg]
    rfl
  · rw [Array.getElem?_append_left (by simpa using hk), Array.getElem?_modify, if_neg (fun h => hne h.symm)]
abbrev encL (l : List ByteArray) : Array (List UInt8) := (l.map bsL).toArray
theorem encL_at (l : List ByteArray) (j : Nat) (h : j < l.length) : encStr (encL l)[j]! = .string l[j] := by
  rw [getElem!_pos _ _ (by simpa using h)]
  simp [encStr, bsL]
/-- A contract of the library that turns an own row of texts. -/
theorem PC_put {P : Program} {f : FuncId} {fn : Func} (l l' : List ByteArray) (hl : l'.length = l.length) (R : A) (v : Nat → Nat → Value)
    (hR : ∀ ok (w : World) (g cap : Nat) (cs : Array Value) (t : TypeId), l.length ≤ cap → w.heap[g]? = some (.cells cs t (0, 0)) → cs.size = cap → RA (RL [g] ok w) R (v g cap))
    (hf : P.funcs[f]? = some fn)
    (h : ∀ (w : World) (g cap : Nat), Holds encStr w g 0 (encL l) → g < w.heap.size → l.length ≤ cap → Calls P f #[.slice (some ⟨g, 0, none⟩) l.length cap] w fun e w' => e = .returned (v g cap) ∧ ∃ n os, w' = grow (putRow encStr (Sort.ahead w n) g 0 (encL l')) os)
    (hn : (fn.name == "runtime.NumGoroutine") = false := by kernel_rfl) (hb : fn.body.isSome = true := by kernel_rfl) : PC P f [xOwn 0 1 0 l.length] [.arr (l.map fun x => lc (cSt x)) 1 9] (fun r bx => r = R ∧ bx = [.arr (l'.map fun x => lc (cSt x)) 1 9]) := by
  refine ⟨⟨fn, hf, hn, hb⟩, fun ok μ0 w cargs _ hm hlc ha => ?_⟩
  obtain ⟨g, rfl⟩ := List.length_eq_one_iff.1 hm.len
  obtain ⟨u0, h1, h2⟩ := ha 0 _ rfl
  have hc : cargs = #[u0] := by
    apply Array.ext
    · rw [← hlc]; rfl
    · intro i hi1 hi2
      have h0 : i = 0 := by simp at hi2; omega
      subst h0
      rw [Array.getElem?_eq_getElem hi1] at h1
      exact Option.some.inj h1
  subst hc
  obtain ⟨g', cap, cs, t, hg', rfl, hcap, hcs, hsz⟩ := h2
  obtain rfl : g = g' := Option.some.inj hg'
  have hb0 := hm.box 0 _ g rfl rfl
  obtain ⟨cs2, cap2, hcs2, hsz2, hle2, hmx2, hel⟩ := hb0
  rw [hcs] at hcs2
  obtain ⟨rfl, rfl⟩ : cs = cs2 ∧ t = 9 := by injection hcs2 with e; injection e with e1 e2; exact ⟨e1, e2⟩
  have hszc : cs.size = cap := by omega
  have hglt : g < w.heap.size := hm.there g (by simp)
  have hat : ∀ (j : Nat) (hj : j < l.length), cs[j]? = some (.string l[j]) := by
    intro j hj
    obtain ⟨-, h3⟩ := hel j (lc (cSt l[j])) (by rw [List.getElem?_map, List.getElem?_eq_getElem hj]; rfl)
    obtain ⟨u, h4, h5⟩ := h3 0 _ rfl
    have h6 : u = .string l[j] := h5
    rw [← h6]
    simpa using h4
  have hH : Holds encStr w g 0 (encL l) := by
    intro j hj
    have hj' : j < l.length := by simpa using hj
    rw [encL_at l j hj', Nat.zero_add]
    refine ⟨?_, ?_⟩
    · simp [World.cell?, hcs, hat j hj']
    · simp [World.frozen?, hcs]
  refine (h w g cap hH hglt (by simpa using hcap)).mono fun e w' ⟨he, n, os, hw'⟩ => ?_
  obtain ⟨p1, p2, p3⟩ := put_world (n := n) (os := os) (d := encL l') hcs
  rw [← hw'] at p1 p2 p3
  have hsz' : (putCells encStr 0 (encL l') cs).size = cs.size := by simp [putCells]
  refine ⟨v g cap, R, [.arr (l'.map fun x => lc (cSt x)) 1 9], [], ok, he, ⟨rfl, rfl⟩, hR ok w' g cap _ 9 (by simpa using hcap) p1 (by rw [hsz', hszc]), ?_, fun g hg => by simp at hg, ?_, fun _ h => h, fun _ h => .inl h⟩
  · have hng : ¬ ok g := hm.live 0 _ g rfl rfl (by simp)
    refine ⟨rfl, fun i j b b' g h h' _ _ _ _ => ?_, fun i b g2 h h' hh => ?_, fun g2 h2 => ?_, fun k hk => Nat.lt_of_lt_of_le (hm.small k hk) p3, fun i b g2 h h' => ?_, hm.gl.keep (fun _ h => h) (fun k hk => p2 k (hm.small k hk) (fun e => hng (e ▸ hk)))⟩
    · rcases i with _ | i
      · rcases j with _ | j
        · rfl
        · simp at h'
      · simp at h
    · rcases i with _ | i
      · obtain rfl : g = g2 := by simpa using h'
        exact hng
      · simp at h
    · have : g2 = g := by simpa using h2
      rw [this]
      exact Nat.lt_of_lt_of_le hglt p3
    · rcases i with _ | i
      · obtain rfl : g = g2 := by simpa using h'
        obtain rfl : B.arr (l'.map fun x => lc (cSt x)) 1 9 = b := by simpa using h
        refine ⟨_, cap, p1, by rw [hsz']; omega, by simp only [List.length_map]; omega, by omega, fun i e hi => ?_⟩
        rw [List.getElem?_map] at hi
        have hil : i < l'.length := by
          rcases Nat.lt_or_ge i l'.length with h | h
          · exact h
          · rw [List.getElem?_eq_none h] at hi; cases hi
        rw [List.getElem?_eq_getElem hil] at hi
        obtain rfl : lc (cSt l'[i]) = e := by simpa using hi
        refine ⟨rfl, fun j x hj => ?_⟩
        rcases j with _ | j
        · obtain rfl : L.c (.v (.string l'[i])) = x := by simpa [lc, cSt] using hj
          refine ⟨.string l'[i], ?_, rfl⟩
          have hic : i < cs.size := by omega
          show (putCells encStr 0 (encL l') cs)[i * 1 + 0]? = _
          rw [Nat.mul_one, Nat.add_zero]
          simp only [putCells, Array.getElem?_mapIdx, Array.getElem?_eq_getElem hic, Option.map_some]
          rw [if_pos ⟨Nat.zero_le _, by simpa using hil⟩, Nat.sub_zero, encL_at l' i hil]
        · simp [lc, cSt] at hj
      · simp at h
  · have hs : w'.os = w.os ∧ w'.tape = w.tape ∧ w'.output = w.output := by rw [hw']; exact ⟨rfl, rfl, rfl⟩
    refine ⟨hs.1, hs.2.1, hs.2.2, p3, fun k hk hk2 => p2 k hk (fun e => hk2 (by simp [e])), fun k hk cs' t' hk' => ?_⟩
    by_cases hkg : k = g
    · subst hkg
      rw [hcs] at hk'
      injection hk' with e
      injection e with e1 e2
      subst e1 e2
      exact ⟨_, p1, hsz'⟩
    · exact ⟨cs', by rw [p2 k hk hkg]; exact hk', rfl⟩
end
section
open Go.Shelf
attribute [local go_sem] Oper.semAt_some
/-! A row of texts, gathered by way of the library's iterator. -/
def uptoS {α : Type} (f : Nat → α) (k : Nat) : List α := (List.range k).map f
theorem uptoS_succ {α : Type} (f : Nat → α) (k : Nat) : uptoS f (k + 1) = uptoS f k ++ [f k] := by simp [uptoS, List.range_succ]
theorem uptoS_length {α : Type} (f : Nat → α) (k : Nat) : (uptoS f k).length = k := by simp [uptoS]
theorem uptoS_all (zs : List ByteArray) : uptoS (fun j => zs[j]?.getD ⟨#[]⟩) zs.length = zs := by
  apply List.ext_getElem
  · simp [uptoS]
  · intro i h1 h2
    simp [uptoS, h2]
theorem uptoS_take (zs : List ByteArray) {k : Nat} (hk : k ≤ zs.length) : uptoS (fun j => zs[j]?.getD ⟨#[]⟩) k = zs.take k := by
  apply List.ext_getElem
  · simp [uptoS, hk]
  · intro i h1 h2
    have : i < zs.length := by simp [uptoS] at h1; omega
    simp [uptoS, this]
set_option maxRecDepth 100000 in
set_option maxHeartbeats 2000000 in
theorem vals1_in (F : Fence) (n : Nat) (h7 : F.fn 75) (hro : F.round = none) (hn : 1 ≤ n) (l Bs n₀ b off len cap : Nat) (zs : List ByteArray) (hreach : len * 8 ≤ 140737488351232) (hb : b < n₀) (J Jx : List ByteArray → World → Prop)
    (hY : ∀ pre x W, J pre W → pre.length < len → YieldAt F (n - 1) Tryz.prog l #[.string x] W fun e W' =>
      (e = .returned (.bool true) ∧ J (pre ++ [x]) W' ∧ Below n₀ W W') ∨ (e = .returned (.bool false) ∧ Jx (pre ++ [x]) W'))
    (W : World) (hBs : W.cell? ⟨Bs, 0, none⟩ = some (.slice (some ⟨b, off, none⟩) len cap)) (hc : ∀ j, j < len → W.cell? ⟨b, off + j, none⟩ = some (.string (zs[j]?.getD ⟨#[]⟩))) (h0 : J [] W) :
    CallsIn F n Tryz.prog 75 #[.func (.yield l) #[] #[], .pointer (some ⟨Bs, 0, none⟩)] W fun e W' => (∃ v, e = .returned v) ∧
      ((∃ ys, ys = uptoS (fun j => zs[j]?.getD ⟨#[]⟩) len ∧ J ys W') ∨ (∃ pre, (∃ k, k ≤ len ∧ pre = uptoS (fun j => zs[j]?.getD ⟨#[]⟩) k) ∧ Jx pre W')) := by
  refine callsIn_of_wp Tryz.func75 rfl h7 ?_ hro
  simp only [Tryz.ntmps75, List.size_toArray, List.length_cons, List.length_nil, Nat.reduceAdd, Nat.reduceSub, Array.replicate_succ, Array.replicate_zero, List.push_toArray, List.append_toArray, List.nil_append, List.cons_append]
  gi_wp2
  gi_loopw [7] (fun i wr => ∃ k : Nat, k ≤ len ∧ i = .int .i64 k ∧ J (uptoS (fun j => zs[j]?.getD ⟨#[]⟩) k) wr ∧ Below n₀ W wr)
    (fun i _ => len - (intOf i).toNat)
  case atStart => exact ⟨0, Nat.zero_le _, rfl, h0, Below.refl _ _⟩
  case round =>
    obtain ⟨k, hk, rfl, hJs, hnx⟩ := hrel
    have hcx : k < len → wr.cell? ⟨b, off + k, none⟩ = some (.string (zs[k]?.getD ⟨#[]⟩)) := fun h => (hnx.cell (p := ⟨b, off + k, none⟩) hb).trans (hc k h)
    by_cases hlt : k < len
    · obtain ⟨fn, tmps, assign, body, hy, hR⟩ := hY _ (zs[k]?.getD ⟨#[]⟩) wr hJs (by rw [uptoS_length]; exact hlt)
      have hcx' := hcx hlt
      gi_wp2
      refine hR.mono ?_
      rintro e W3 (⟨rfl, hJ3, hk3⟩ | ⟨rfl, hJx3⟩)
      · gi_wp2
        go_roundw
        case rel => exact ⟨k + 1, by omega, by simp, by rw [uptoS_succ]; exact hJ3, hnx.trans hk3⟩
        case measure => simp [intOf]; omega
      · gi_wp2
        refine bodyPost_ret (results_none rfl _ _ _) rfl ?_
        exact ⟨⟨_, rfl⟩, .inr ⟨_, ⟨k + 1, by omega, (uptoS_succ _ _).symm⟩, hJx3⟩⟩
    · obtain rfl : k = len := by omega
      gi_wp2
      go_end0
      exact ⟨⟨_, rfl⟩, .inl ⟨_, rfl, hJs⟩⟩
/-- The slice's value holds the texts, in a block below n₀; or it is nil, or of no element, and there are none. -/
def StrsAt (n₀ : Nat) (W : World) (sv : Value) (zs : List ByteArray) : Prop :=
  (zs = [] ∧ ∃ a cap, sv = .slice a 0 cap) ∨ ∃ b off cap, sv = .slice (some ⟨b, off, none⟩) zs.length cap ∧ b < n₀ ∧ ∀ j, j < zs.length → W.cell? ⟨b, off + j, none⟩ = some (.string (zs[j]?.getD ⟨#[]⟩))
theorem StrsAt.below {n₀ : Nat} {A B : World} (h : Below n₀ A B) {sv : Value} {zs : List ByteArray} : StrsAt n₀ A sv zs → StrsAt n₀ B sv zs
  | .inl e => .inl e
  | .inr ⟨b, off, cap, e, hb, hc⟩ => .inr ⟨b, off, cap, e, hb, fun j hj => (h.cell (p := ⟨b, off + j, none⟩) hb).trans (hc j hj)⟩
set_option maxRecDepth 100000 in
set_option maxHeartbeats 1000000 in
theorem vals1_nil_in (F : Fence) (n : Nat) (h7 : F.fn 75) (hro : F.round = none) (l Bs : Nat) (a : Option Addr) (cap : Nat) (J : List ByteArray → World → Prop) (W : World) (hBs : W.cell? ⟨Bs, 0, none⟩ = some (.slice a 0 cap)) (h0 : J [] W) :
    CallsIn F n Tryz.prog 75 #[.func (.yield l) #[] #[], .pointer (some ⟨Bs, 0, none⟩)] W fun e W' => (∃ v, e = .returned v) ∧ J [] W' := by
  refine callsIn_of_wp Tryz.func75 rfl h7 ?_ hro
  simp only [Tryz.ntmps75, List.size_toArray, List.length_cons, List.length_nil, Nat.reduceAdd, Nat.reduceSub, Array.replicate_succ, Array.replicate_zero, List.push_toArray, List.append_toArray, List.nil_append, List.cons_append]
  gi_wp2
  gi_loopw [7] (fun i wr => i = .int .i64 0 ∧ J [] wr) (fun _ _ => 0)
  case atStart => exact ⟨rfl, h0⟩
  case round =>
    obtain ⟨rfl, hJs⟩ := hrel
    gi_wp2
    go_end0
    exact ⟨⟨_, rfl⟩, hJs⟩
set_option maxHeartbeats 1000000 in
theorem values_in (F : Fence) (n : Nat) (h5 : F.fn 55) (hro : F.round = none) (a : Option Addr) (len cap : Nat) (w : World) :
    CallsIn F n Tryz.prog 55 #[.slice a len cap] w fun e w' => e = .returned (.func (.func 75) #[] #[.pointer (some ⟨w.heap.size, 0, none⟩)]) ∧ w' = w.alloc (.cells #[.slice a len cap] 22) := by
  refine callsIn_of_wp Tryz.func55 rfl h5 ?_ hro
  simp only [Tryz.ntmps55, List.size_toArray, List.length_cons, List.length_nil, Nat.reduceAdd, Nat.reduceSub, Array.replicate_succ, Array.replicate_zero, List.push_toArray, List.append_toArray, List.nil_append, List.cons_append]
  gi_wp2
  go_ret
  exact ⟨rfl, rfl⟩
theorem values_stops (F : Fence) (n : Nat) (h7 : F.fn 75) (hro : F.round = none) (hn : 1 ≤ n) (Bs n₀ : Nat) (sv : Value) (zs : List ByteArray) (hreach : zs.length * 8 ≤ 140737488351232) (w : World) (hBs : Bs < w.heap.size) (hn₀ : n₀ ≤ w.heap.size)
    (hc : w.cell? ⟨Bs, 0, none⟩ = some sv) (hI : StrsAt n₀ w sv zs) :
    SeqStopsK F n Tryz.prog 75 #[.pointer (some ⟨Bs, 0, none⟩)] (fun x : ByteArray => #[Value.string x]) (Below n₀) (fun ys => ys = zs) (fun pre => pre <+: zs) zs.length w := fun l J Jx W hW _ _ hY h0 => by
  have hc' := (hW.cell (p := ⟨Bs, 0, none⟩) hBs).trans hc
  rcases hI.below (hW.mono hn₀) with ⟨rfl, a, cap, rfl⟩ | ⟨b, off, cap, rfl, hb, hcs⟩
  · exact (vals1_nil_in F n h7 hro l Bs a cap J W hc' h0).mono fun e W' ⟨he, hj⟩ => ⟨he, .inl ⟨_, rfl, hj⟩⟩
  · refine (vals1_in F n h7 hro hn l Bs n₀ b off zs.length cap zs hreach hb J Jx hY W hc' hcs h0).mono ?_
    rintro e W' ⟨he, ⟨ys, rfl, hj⟩ | ⟨pre, ⟨k, hk, rfl⟩, hj⟩⟩
    · exact ⟨he, .inl ⟨_, uptoS_all zs, hj⟩⟩
    · exact ⟨he, .inr ⟨_, by rw [uptoS_take zs hk]; exact List.take_prefix _ _, hj⟩⟩
theorem info9 : (Tryz.prog.info? 9).map (fun i => (i.zero, i.size, i.bytes)) = some (some (.string ⟨#[]⟩), 1, 16) := by kernel_rfl
set_option maxRecDepth 100000 in
set_option maxHeartbeats 2000000 in
theorem appendSeq_in (F : Fence) (n : Nat) (h3 : F.fn 83) (h5 : F.fn 75) (hro : F.round = none) (hn : 2 ≤ n) (Bs n₀ : Nat) (sv : Value) (zs : List ByteArray) (hlen : zs.length ≤ 1000) (w : World) (hBs : Bs < w.heap.size) (hn₀ : n₀ ≤ w.heap.size)
    (hc0 : w.cell? ⟨Bs, 0, none⟩ = some sv) (hI : StrsAt n₀ w sv zs) :
    CallsIn F n Tryz.prog 83 #[.slice none 0 0, .func (.func 75) #[] #[.pointer (some ⟨Bs, 0, none⟩)]] w fun e W' => ∃ v, e = .returned v ∧ W'.ownsRow w.heap.size 9 1 v zs.length (zs.map Value.string) ∧ (v = .slice none 0 0 ↔ zs = []) ∧ Below w.heap.size w W' := by
  have h1 : 1 ≤ n := by omega
  obtain ⟨i0, hi, hz0, hz1, hz2⟩ := info_parts info9
  refine callsIn_of_wp_marks Tryz.func83 rfl h3 ?_ hro
  simp only [Tryz.ntmps83, List.size_toArray, List.length_cons, List.length_nil, Nat.reduceAdd, Nat.reduceSub, Array.replicate_succ, Array.replicate_zero, List.push_toArray, List.append_toArray, List.nil_append, List.cons_append]
  gi_wp2
  have bO := Boxed.new w 22 (.slice none 0 0)
  have hB0 : Below w.heap.size w (w.alloc (.cells #[.slice none 0 0] 22)) := (Below.refl _ w).alloc (Nat.le_refl _) _
  have hcB : (w.alloc (.cells #[.slice none 0 0] 22)).cell? ⟨Bs, 0, none⟩ = some sv := (hB0.cell (p := ⟨Bs, 0, none⟩) hBs).trans hc0
  refine wpIn_rangeFunc_ownG hro h1 (gf := 75) (lb := #[.pointer (some ⟨Bs, 0, none⟩)]) rfl h5 (enters_of Tryz.func75 (by kernel_rfl) rfl)
    (values_stops F (n - 1) h5 hro (by omega) Bs w.heap.size sv zs (by omega) _ (by simp; omega) (by simp) hcB ((hI.below (hB0.mono hn₀)).imp id fun ⟨b, off, cap, e, hb, h⟩ => ⟨b, off, cap, e, Nat.lt_of_lt_of_le hb hn₀, h⟩)) belowK_t (belowK_b (by simp)) (Below.refl _ _) (fun _ => rfl)
    (fun pre W => (∃ v, Boxed W w.heap.size 22 v ∧ W.ownsRow w.heap.size 9 1 v pre.length (pre.map Value.string) ∧ (v = .slice none 0 0 ↔ pre = [])) ∧ Below w.heap.size w W)
    (fun _ _ _ => False)
    (OwnFrom.and (Own.from (holdsRow_own w.heap.size w.heap.size 22 9 1 (fun pre => pre.length) (fun pre => pre.map Value.string) (fun pre v => v = .slice none 0 0 ↔ pre = [])) _) (ownFrom_below (Nat.le_refl _) (by simp)))
    (fun _ _ _ _ _ hs _ _ => hs)
    ⟨⟨_, bO, World.ownsRow_nil _ _ _ _, by simp⟩, hB0⟩
    (fun x => { tmps := #[.slice none 0 0, .func (.func 75) #[] #[.pointer (some ⟨Bs, 0, none⟩)], .pointer (some ⟨w.heap.size, 0, none⟩), undef, .slice none 0 0, .string x, .func (.func 75) #[] #[.pointer (some ⟨Bs, 0, none⟩)], .string x, undef, undef, undef, undef, undef], defers := [] }) ?assign ?body ?done ?stop
  case assign =>
    intro l x W K hK
    gi_wp2
    exact hK
  case body =>
    rintro l pre x W ⟨⟨v, hv, hrow, hnil⟩, hB⟩ hlt
    have hc := hv.cell
    gi_wp2_with (gi_at_builtin; refine wpListIn_append_own _ rfl _ _ 22 rfl w.heap.size 9 i0 (.string ⟨#[]⟩) 1 16 Tryz.underlying22 hi hz0 hz1 hz2 rfl (by decide) _ _ _ rfl (hrow.alloc _) ⟨W.heap.size, 0, none⟩ 1 1 [.string x] rfl rfl (cell_one_new _ _ _) (by simp [Value.oneCell']) (by simp only [maxLen]; omega) (by omega) (by have := hB.size; simp; omega) ?_; intro v' w1 hown' hgrow _; obtain ⟨g', cap', rfl⟩ := ownsRow_succ hown'; obtain ⟨hv1, hv2, hr2, hk2, hb2⟩ := hv.appended (by decide) hrow hB.size (Nat.le_refl _) hown' hgrow; have hc1 := hv1.cell; have hf1 := hv1.frozen)
    exact ⟨hk2.from _, hb2, ⟨_, hv2, by simpa using hr2, by simp⟩, hB.trans hb2⟩
  case done =>
    rintro D ys W hD rfl ⟨⟨v, hv, hrow, hnil⟩, hB⟩ hK
    have hc := hv.cell
    gi_wp2
    refine ⟨by simp, .inl ⟨_, _, rfl, run_takeDeferred hK, ?_⟩⟩
    exact ⟨_, results_tmp rfl _ _ _, v, rfl, ownsRow_putObj hrow _ hK rfl, hnil, hB.trans (belowK_b (w := w) (Nat.le_refl _) W D _ _ (by simp at hD; omega) hK rfl rfl)⟩
  case stop =>
    rintro D c pre W _ _ h _
    exact h.elim
end
section
open Go.Shelf Go.Sort
/-! Does each text of a row stand there once? The library's sort, and what leaves neighbours out. -/
theorem holds_of {w : World} {g : Nat} {l : List ByteArray} {cs : Array Value} {t : TypeId} (hg : w.heap[g]? = some (.cells cs t (0, 0))) (h : ∀ (j : Nat) (hj : j < l.length), cs[j]? = some (.string l[j])) : Holds encStr w g 0 (encL l) := by
  intro j hj
  have hj' : j < l.length := by simpa using hj
  rw [encL_at l j hj', Nat.zero_add]
  refine ⟨?_, ?_⟩
  · simp [World.cell?, hg, h j hj']
  · simp [World.frozen?, hg]
theorem put_at {l : List ByteArray} {cs : Array Value} (h : l.length ≤ cs.size) (j : Nat) (hj : j < l.length) : (putCells encStr 0 (encL l) cs)[j]? = some (.string l[j]) := by
  simp only [putCells, Array.getElem?_mapIdx, Array.getElem?_eq_getElem (show j < cs.size by omega), Option.map_some]
  rw [if_pos ⟨Nat.zero_le _, by simpa using hj⟩, Nat.sub_zero, encL_at l j hj]
theorem put_below {w : World} {g n B : Nat} {os : Array Obj} {d : Array (List UInt8)} {cs : Array Value} {t : TypeId} (hg : w.heap[g]? = some (.cells cs t (0, 0))) (hB : B ≤ g) : Below B w (grow (putRow encStr (Sort.ahead w n) g 0 d) os) := by
  obtain ⟨p1, p2, p3⟩ := put_world (n := n) (os := os) (d := d) hg
  have hlt : g < w.heap.size := by
    rcases Nat.lt_or_ge g w.heap.size with h | h
    · exact h
    · rw [Array.getElem?_eq_none h] at hg; cases hg
  exact ⟨rfl, rfl, rfl, p3, fun k hk => p2 k (by omega) (by omega)⟩
def sortS (l : List ByteArray) : List ByteArray := ((l.map bsL).mergeSort leB8).map ofL
theorem map_bs_of (l : List (List UInt8)) : (l.map ofL).map bsL = l := by
  rw [List.map_map]
  show l.map (fun x => bsL (ofL x)) = l
  simp [bsL_of]
theorem sortS_bs (l : List ByteArray) : (sortS l).map bsL = (l.map bsL).mergeSort leB8 := map_bs_of _
theorem sortS_len (l : List ByteArray) : (sortS l).length = l.length := by
  unfold sortS
  rw [List.length_map, (List.mergeSort_perm _ _).length_eq, List.length_map]
theorem row_of_owns {W : World} {base : Nat} {v : Value} {zs : List ByteArray} (h : W.ownsRow base 9 1 v zs.length (zs.map Value.string)) (hne : zs ≠ []) : ∃ g cap cur, v = .slice (some ⟨g, 0, none⟩) zs.length cap ∧ base ≤ g ∧ W.heap[g]? = some (.cells cur 9 (0, 0)) ∧ zs.length ≤ cap ∧ cur.size = cap ∧ ∀ (j : Nat) (hj : j < zs.length), cur[j]? = some (.string zs[j]) := by
  rcases h.2 with ⟨-, h0⟩ | ⟨g, cap, cur, hv, hb, hg, hc, -, hsz, ht⟩
  · exact absurd (List.eq_nil_of_length_eq_zero h0) hne
  · refine ⟨g, cap, cur, hv, hb, hg, hc, by omega, fun j hj => ?_⟩
    have h1 : (cur.toList.take (zs.length * 1))[j]? = some (.string zs[j]) := by
      rw [ht, List.getElem?_map, List.getElem?_eq_getElem hj]
      rfl
    rw [List.getElem?_take_of_lt (by omega)] at h1
    simpa using h1
theorem collect_c (Bs n₀ : Nat) (sv : Value) (zs : List ByteArray) (hlen : zs.length ≤ 1000) (w : World) (hBs : Bs < w.heap.size) (hn₀ : n₀ ≤ w.heap.size) (hc0 : w.cell? ⟨Bs, 0, none⟩ = some sv) (hI : StrsAt n₀ w sv zs) :
    Calls Tryz.prog 73 #[.func (.func 75) #[] #[.pointer (some ⟨Bs, 0, none⟩)]] w fun e W' => ∃ v, e = .returned v ∧ W'.ownsRow w.heap.size 9 1 v zs.length (zs.map Value.string) ∧ (v = .slice none 0 0 ↔ zs = []) ∧ Below w.heap.size w W' := by
  go_enter Tryz.func73, Tryz.ntmps73
  go_wp2_with (go_at_call 83; refine (callsIn_wide.1 (appendSeq_in Fence.wide 2 trivial trivial rfl (Nat.le_refl _) Bs n₀ sv zs hlen _ hBs hn₀ hc0 hI)).mono ?_; rintro e w' ⟨v, rfl, hrow, hnil, hb⟩)
  go_ret
  exact ⟨v, rfl, hrow, hnil, hb⟩
theorem sorted_nil (Bs n₀ : Nat) (sv : Value) (w : World) (hBs : Bs < w.heap.size) (hn₀ : n₀ ≤ w.heap.size) (hc0 : w.cell? ⟨Bs, 0, none⟩ = some sv) (hI : StrsAt n₀ w sv []) :
    Calls Tryz.prog 54 #[.func (.func 75) #[] #[.pointer (some ⟨Bs, 0, none⟩)]] w fun e W' => e = .returned (.slice none 0 0) ∧ Below w.heap.size w W' := by
  go_enter Tryz.func54, Tryz.ntmps54
  go_wp2_with (first
    | (go_at_call 73; refine (collect_c Bs n₀ sv [] (by simp) _ hBs hn₀ hc0 hI).mono ?_; rintro e w' ⟨v, rfl, hrow, hnil, hb⟩; obtain rfl := hnil.2 rfl)
    | (go_at_call 74; refine (Tryz.slices_Sort_string_none _ _ _).mono ?_; rintro e w' ⟨rfl, rfl⟩))
  go_ret
  exact ⟨rfl, hb⟩
theorem sorted_own (Bs n₀ : Nat) (sv : Value) (zs : List ByteArray) (hne : zs ≠ []) (hlen : zs.length ≤ 1000) (w : World) (hBs : Bs < w.heap.size) (hn₀ : n₀ ≤ w.heap.size) (hc0 : w.cell? ⟨Bs, 0, none⟩ = some sv) (hI : StrsAt n₀ w sv zs) :
    Calls Tryz.prog 54 #[.func (.func 75) #[] #[.pointer (some ⟨Bs, 0, none⟩)]] w fun e W' => ∃ g cap cur, e = .returned (.slice (some ⟨g, 0, none⟩) zs.length cap) ∧ w.heap.size ≤ g ∧ W'.heap[g]? = some (.cells cur 9 (0, 0)) ∧ zs.length ≤ cap ∧ cur.size = cap ∧ (∀ (j : Nat) (hj : j < (sortS zs).length), cur[j]? = some (.string (sortS zs)[j])) ∧ Below w.heap.size w W' := by
  go_enter Tryz.func54, Tryz.ntmps54
  go_wp2_with (first
    | (go_at_call 73; refine (collect_c Bs n₀ sv zs hlen _ hBs hn₀ hc0 hI).mono ?_; rintro e w1 ⟨v, rfl, hrow, hnil, hb⟩; obtain ⟨g, cap, cur, rfl, hbg, hg, hcap, hcs, hel⟩ := row_of_owns hrow hne)
    | (go_at_call 74
       rw [show zs.length = (zs.map bsL).length by rw [List.length_map]]
       refine (Tryz.slices_Sort_string g 0 cap (zs.map bsL) _ (holds_of hg hel) ?hg1 ?hs1).mono ?_
       case hg1 => exact (Array.getElem?_eq_some_iff.1 hg).1
       case hs1 => rw [List.length_map]; omega
       rintro e w2 ⟨rfl, n, os, rfl⟩))
  go_ret
  have hL : ((zs.map bsL).mergeSort leB8).toArray = encL (sortS zs) := by rw [← sortS_bs]
  refine ⟨g, cap, putCells encStr 0 (encL (sortS zs)) cur, by simp, hbg, ?_, hcap, ?_, ?_, hb.trans (put_below hg hbg)⟩
  · rw [hL]; exact (put_world hg).1
  · simp [putCells, hcs]
  · intro j hj
    exact put_at (by rw [sortS_len]; omega) j hj
end
section
open Go.Shelf Go.Sort
set_option maxRecDepth 100000
/-! Does each text of a row stand there once: the program's way. -/
theorem once_len (zs : List ByteArray) : (Lib.compact ((sortS zs).map bsL)).length = zs.length ↔ zs.Nodup := by
  rw [sortS_bs, ← nodup_bs, ← once_iff (zs.map bsL), List.length_map]
theorem once_nil (a : Option Addr) (cap : Nat) (w : World) : Calls Tryz.prog 30 #[.slice a 0 cap] w fun e W' => e = .returned (.bool true) ∧ Below w.heap.size w W' := by
  have hb0 : Below w.heap.size w (w.alloc (.cells #[.slice a 0 cap] 22)) := (Below.refl _ w).alloc (Nat.le_refl _) _
  have hcell := (Boxed.new w 22 (.slice a 0 cap)).cell
  go_enter Tryz.func30, Tryz.ntmps30
  go_wp2_with (first
    | (go_at_call 55; refine (callsIn_wide.1 (values_in Fence.wide 1 trivial rfl a 0 cap w)).mono ?_; rintro e w' ⟨rfl, rfl⟩)
    | (go_at_call 54; refine (sorted_nil w.heap.size (w.heap.size) (.slice a 0 cap) _ (by simp) (by simp) hcell (.inl ⟨rfl, a, cap, rfl⟩)).mono ?_; rintro e w' ⟨rfl, hb⟩)
    | (go_at_call 53; refine (Tryz.slices_Compact_string_empty _ _ _).mono ?_; rintro e w' ⟨rfl, rfl⟩))
  go_ret
  exact ⟨rfl, hb0.trans (hb.mono (by simp))⟩
theorem once_own (b off cap : Nat) (zs : List ByteArray) (hne : zs ≠ []) (hlen : zs.length ≤ 1000) (w : World) (hb : b < w.heap.size) (hc : ∀ j, j < zs.length → w.cell? ⟨b, off + j, none⟩ = some (.string (zs[j]?.getD ⟨#[]⟩))) :
    Calls Tryz.prog 30 #[.slice (some ⟨b, off, none⟩) zs.length cap] w fun e W' => e = .returned (.bool (decide zs.Nodup)) ∧ Below w.heap.size w W' := by
  have hb0 : Below w.heap.size w (w.alloc (.cells #[.slice (some ⟨b, off, none⟩) zs.length cap] 22)) := (Below.refl _ w).alloc (Nat.le_refl _) _
  have hcell := (Boxed.new w 22 (.slice (some ⟨b, off, none⟩) zs.length cap)).cell
  have hI : StrsAt w.heap.size w (.slice (some ⟨b, off, none⟩) zs.length cap) zs := .inr ⟨b, off, cap, rfl, hb, hc⟩
  go_enter Tryz.func30, Tryz.ntmps30
  go_wp2_with (first
    | (go_at_call 55; refine (callsIn_wide.1 (values_in Fence.wide 1 trivial rfl (some ⟨b, off, none⟩) zs.length cap w)).mono ?_; rintro e w' ⟨rfl, rfl⟩)
    | (go_at_call 54; refine (sorted_own w.heap.size (w.heap.size) (.slice (some ⟨b, off, none⟩) zs.length cap) zs hne hlen _ (by simp) (by simp) hcell (hI.below hb0)).mono ?_; rintro e w2 ⟨g, cap2, cur, rfl, hbg, hg, hcap, hcs, hel, hb2⟩)
    | (go_at_call 53
       rw [show zs.length = ((sortS zs).map bsL).length by rw [List.length_map, sortS_len]]
       refine (Tryz.slices_Compact_string g 0 cap2 ((sortS zs).map bsL) _ (holds_of hg hel) ?hs1 ?hs2).mono ?_
       case hs1 => rw [List.length_map, sortS_len]; omega
       case hs2 => rw [List.length_map, sortS_len]; exact hcap
       rintro e w3 ⟨rfl, n, rfl⟩))
  go_ret
  have hbg2 : w.heap.size ≤ g := by simp at hbg; omega
  refine ⟨?_, ?_⟩
  · refine congrArg (fun b => Ending.returned (.bool b)) ?_
    rw [Bool.eq_iff_iff, beq_iff_eq, decide_eq_true_eq, ← once_len, sortS_len]
    omega
  · have h3 := put_below (n := n) (os := #[]) (d := (Lib.compact (List.map bsL (sortS zs)) ++ List.replicate ((sortS zs).length - (Lib.compact (List.map bsL (sortS zs))).length) []).toArray) hg hbg2
    rw [grow_empty] at h3
    exact (hb0.trans (hb2.mono (by simp))).trans h3
/-- A contract out of a walk: a row of texts, and nothing turned. -/
theorem c30 (zs : List ByteArray) (hlen : zs.length ≤ 1000) : PC Tryz.prog 30 [xRow zs.length 1 (elemsOf (zs.map cSt))] [] (fun r bx => r = A.bool (decide zs.Nodup) ∧ bx = []) := by
  refine ⟨⟨_, Tryz.func30, by kernel_rfl, by kernel_rfl⟩, fun ok μ0 w cargs _ hm hlc ha => ?_⟩
  have hμ : μ0 = [] := List.eq_nil_of_length_eq_zero hm.len
  subst hμ
  obtain ⟨u0, h1, h2⟩ := ha 0 _ rfl
  have hc : cargs = #[u0] := by
    apply Array.ext
    · rw [← hlc]; rfl
    · intro i hi1 hi2
      have h0 : i = 0 := by simp at hi2; omega
      subst h0
      rw [Array.getElem?_eq_getElem hi1] at h1
      exact Option.some.inj h1
  subst hc
  obtain ⟨a, cap, rfl, ⟨hcap, _⟩, hcs⟩ := h2
  have key : Calls Tryz.prog 30 #[.slice a zs.length cap] w fun e W' => e = .returned (.bool (decide zs.Nodup)) ∧ Below w.heap.size w W' := by
    cases hz : zs with
    | nil => exact once_nil a cap w
    | cons x r =>
      rw [← hz]
      have hpos : 0 < zs.length := by rw [hz]; simp
      obtain ⟨b, v, rfl, hok, hcell, _⟩ := hcs 0 hpos 0 (by omega)
      have hb := spot_none (b := b) (by rw [Nat.zero_mul, add_zero] at hcell; exact hcell)
      obtain ⟨bk, o, s⟩ := b
      dsimp only at hb hok
      obtain rfl : s = none := by injection hb
      refine once_own bk o cap zs (by rw [hz]; simp) hlen w (hm.small _ hok) fun j hj => ?_
      obtain ⟨b2, v2, e2, _, hcell2, hr2⟩ := hcs j hj 0 (by omega)
      obtain rfl := Option.some.inj e2
      have he := el_at (f := cSt) hj
      rw [he] at hr2
      obtain rfl : v2 = .string zs[j] := hr2
      rw [add_lit, Nat.mul_one, Nat.add_zero] at hcell2
      rw [List.getElem?_eq_getElem hj]
      exact hcell2
  exact key.mono fun e w' ⟨he, hb⟩ => ⟨_, A.bool (decide zs.Nodup), [], [], ok, he, ⟨rfl, rfl⟩, rfl, ⟨rfl, fun i j b b' g h => by simp at h, fun i b g h => by simp at h, fun g hg => by simp at hg, fun k hk => Nat.lt_of_lt_of_le (hm.small k hk) hb.size, fun i b g h => by simp at h, hm.gl.keep (fun _ h => h) (fun k hk => hb.block k (hm.small k hk))⟩, fun g hg => by simp at hg, Fw.of _ hb, fun _ h => h, fun _ h => .inl h⟩
end
section
open Go.Shelf Go.Sort
set_option maxRecDepth 100000
/-! A copy of a row of texts. -/
theorem row_of_owns2 {W : World} {base : Nat} {v : Value} {zs : List ByteArray} (h : W.ownsRow base 9 1 v zs.length (zs.map Value.string)) (hne : v ≠ .slice none 0 0) : ∃ g cap cur, v = .slice (some ⟨g, 0, none⟩) zs.length cap ∧ base ≤ g ∧ W.heap[g]? = some (.cells cur 9 (0, 0)) ∧ zs.length ≤ cap ∧ cap ≤ maxLen ∧ cur.size = cap ∧ ∀ (j : Nat) (hj : j < zs.length), cur[j]? = some (.string zs[j]) := by
  rcases h.2 with ⟨h0, -⟩ | ⟨g, cap, cur, hv, hb, hg, hc, hm, hsz, ht⟩
  · exact absurd h0 hne
  · refine ⟨g, cap, cur, hv, hb, hg, hc, hm, by omega, fun j hj => ?_⟩
    have h1 : (cur.toList.take (zs.length * 1))[j]? = some (.string zs[j]) := by
      rw [ht, List.getElem?_map, List.getElem?_eq_getElem hj]
      rfl
    rw [List.getElem?_take_of_lt (by omega)] at h1
    simpa using h1
theorem c33o (zs : List ByteArray) (hlen : zs.length ≤ 1000) : PC Tryz.prog 33 [xRow zs.length 1 (elemsOf (zs.map cSt))] [] (fun r bx => (zs = [] ∧ r = .one (.c (.v (.slice none 0 0))) ∧ bx = []) ∨ (r = xOwn 0 1 0 zs.length ∧ bx = [.arr (zs.map fun x => lc (cSt x)) 1 9])) := by
  refine ⟨⟨_, Tryz.func33, by kernel_rfl, by kernel_rfl⟩, fun ok μ0 w cargs _ hm hlc ha => ?_⟩
  have hμ : μ0 = [] := List.eq_nil_of_length_eq_zero hm.len
  subst hμ
  obtain ⟨u0, h1, h2⟩ := ha 0 _ rfl
  have hc : cargs = #[u0] := by
    apply Array.ext
    · rw [← hlc]; rfl
    · intro i hi1 hi2
      have h0 : i = 0 := by simp at hi2; omega
      subst h0
      rw [Array.getElem?_eq_getElem hi1] at h1
      exact Option.some.inj h1
  subst hc
  obtain ⟨a, cap, rfl, ⟨hcap, _⟩, hcs⟩ := h2
  have key : Calls Tryz.prog 33 #[.slice a zs.length cap] w fun e w' => ∃ v, e = .returned v ∧ ((v = .slice none 0 0 ∧ zs = []) ∨ (v ≠ .slice none 0 0 ∧ w'.ownsRow w.heap.size 9 1 v zs.length (zs.map Value.string))) ∧ Below w.heap.size w w' := by
    cases a with
    | none =>
      have hz : zs = [] := by
        cases hz : zs with
        | nil => rfl
        | cons x r =>
          obtain ⟨b, v, h, -⟩ := hcs 0 (by rw [hz]; simp) 0 (by omega)
          cases h
      exact (Tryz.slices_Clone_string_nil _ _ _).mono fun e w' ⟨h, h2⟩ => ⟨_, h, .inl ⟨rfl, hz⟩, by rw [h2]; exact Below.refl _ _⟩
    | some b =>
      cases hz : zs with
      | nil => exact (Tryz.slices_Clone_string_zero _ _ _).mono fun e w' ⟨v, h, h2, h3, h4⟩ => ⟨v, h, .inr ⟨h3, h2⟩, h4⟩
      | cons x r =>
        rw [← hz]
        have hpos : 0 < zs.length := by rw [hz]; simp
        obtain ⟨b', v, e1, hok, hcell, _⟩ := hcs 0 hpos 0 (by omega)
        obtain rfl := Option.some.inj e1
        have hb := spot_none (b := b) (by rw [Nat.zero_mul, add_zero] at hcell; exact hcell)
        obtain ⟨bk, o, s⟩ := b
        dsimp only at hb hok
        obtain rfl : s = none := by injection hb
        refine (Tryz.slices_Clone_string bk o zs.length cap zs w (Nat.le_refl _) (by omega) fun j hj => ?_).mono fun e w' ⟨v, h, h2, h3, h4⟩ => ⟨v, h, .inr ⟨h3, by rw [List.take_length] at h2; exact h2⟩, h4⟩
        obtain ⟨b2, v2, e2, _, hcell2, hr2⟩ := hcs j hj 0 (by omega)
        obtain rfl := Option.some.inj e2
        have he := el_at (f := cSt) hj
        rw [he] at hr2
        obtain rfl : v2 = .string zs[j] := hr2
        rw [add_lit, Nat.mul_one, Nat.add_zero] at hcell2
        rw [List.getD_eq_getElem?_getD, List.getElem?_eq_getElem hj]
        exact hcell2
  refine key.mono fun e w' ⟨v, he, hv, hb⟩ => ?_
  rcases hv with ⟨rfl, hz⟩ | ⟨hne, hrow⟩
  · exact ⟨_, .one (.c (.v (.slice none 0 0))), [], [], ok, he, .inl ⟨hz, rfl, rfl⟩, rfl, ⟨rfl, fun i j b b' g h => by simp at h, fun i b g h => by simp at h, fun g hg => by simp at hg, fun k hk => Nat.lt_of_lt_of_le (hm.small k hk) hb.size, fun i b g h => by simp at h, hm.gl.keep (fun _ h => h) (fun k hk => hb.block k (hm.small k hk))⟩, fun g hg => by simp at hg, Fw.of _ hb, fun _ h => h, fun _ h => .inl h⟩
  · obtain ⟨g, cap2, cur, rfl, hbg, hg, hcap2, hmx, hcs2, hel⟩ := row_of_owns2 hrow hne
    have hglt : g < w'.heap.size := (Array.getElem?_eq_some_iff.1 hg).1
    refine ⟨_, xOwn 0 1 0 zs.length, [.arr (zs.map fun x => lc (cSt x)) 1 9], [g], ok, he, .inr ⟨rfl, rfl⟩, ⟨g, cap2, cur, 9, rfl, rfl, hcap2, hg, by omega⟩, ?_, fun g2 hg2 => ?_, Fw.of _ hb, fun _ h => h, fun _ h => .inl h⟩
    · refine ⟨rfl, fun i j b b' g2 h h' _ _ _ _ => ?_, fun i b g2 h h' hh => ?_, fun g2 h2 => ?_, fun k hk => Nat.lt_of_lt_of_le (hm.small k hk) hb.size, fun i b g2 h h' => ?_, hm.gl.keep (fun _ h => h) (fun k hk => hb.block k (hm.small k hk))⟩
      · rcases i with _ | i
        · rcases j with _ | j
          · rfl
          · simp at h'
        · simp at h
      · rcases i with _ | i
        · obtain rfl : g = g2 := by simpa using h'
          exact fun hk => absurd (hm.small g hk) (by omega)
        · simp at h
      · have : g2 = g := by simpa using h2
        rw [this]
        exact hglt
      · rcases i with _ | i
        · obtain rfl : g = g2 := by simpa using h'
          obtain rfl : B.arr (zs.map fun x => lc (cSt x)) 1 9 = b := by simpa using h
          refine ⟨_, cap2, hg, by omega, by simp only [List.length_map]; omega, hmx, fun i e hi => ?_⟩
          rw [List.getElem?_map] at hi
          have hil : i < zs.length := by
            rcases Nat.lt_or_ge i zs.length with h | h
            · exact h
            · rw [List.getElem?_eq_none h] at hi; cases hi
          rw [List.getElem?_eq_getElem hil] at hi
          obtain rfl : lc (cSt zs[i]) = e := by simpa using hi
          refine ⟨rfl, fun j x hj => ?_⟩
          rcases j with _ | j
          · obtain rfl : L.c (.v (.string zs[i])) = x := by simpa [lc, cSt] using hj
            exact ⟨.string zs[i], by rw [Nat.mul_one, Nat.add_zero]; exact hel i hil, rfl⟩
          · simp [lc, cSt] at hj
        · simp at h
    · have : g2 = g := by simpa using hg2
      rw [this]
      exact .inl hbg
end
section
set_option maxRecDepth 100000
/-! Queries: their cells; columns and aggregates looked at one by one. -/
abbrev aQu (q : Qu) : A := .agg [xS q.table, .c (.sl q.cols.length 1 (elemsOf (q.cols.map cSt))), xI q.whr.op, xS q.whr.col, xI q.whr.cmp, xB q.whr.val.nl, xI q.whr.val.i, xS q.whr.val.s, xI q.whr.kind, xS q.whr.pat, .c (.sl q.whr.kids.length 9 (elemsOf (q.whr.kids.map cPr))), .c (.sl q.aggs.length 2 (elemsOf (q.aggs.map cAe))), xS q.by_]
attribute [go_sem] aQu
/-- Is it not too great? -/
structure SmQ (q : Qu) : Prop where
  cols : q.cols.length ≤ 15
  col : ∀ c ∈ q.cols, c.size ≤ 100
  aggs : q.aggs.length ≤ 15
  agg : ∀ a ∈ q.aggs, a.col.size ≤ 100
  table : q.table.size ≤ 100
  by_ : q.by_.size ≤ 100
  whr : Sm q.whr
theorem aggB_1 {a : Ae} (h : a.op = 1) : aggB a = decide (a.col = e0) := if_pos h
theorem aggB_n {a : Ae} (h : a.op ≠ 1) : aggB a = (decide (2 ≤ a.op ∧ a.op ≤ 5) && nameB a.col) := if_neg h
theorem c32 (a : Ae) (hc : a.col.size ≤ 1000) : PC Tryz.prog 32 [aAe a] [] (fun r bx => r = A.bool (aggB a) ∧ bx = []) := by
  refine enter (rs := [.tmp 2]) mx Tryz.func32 Tryz.ntmps32 fun Q0 hQ0 => ?_
  refine sq fun _ _ => ?_
  refine rg (sg ?_)
  refine nx ?_
  refine sq fun _ _ => ?_
  refine sq fun _ _ => ?_
  refine rg (sg ?_)
  refine nx ?_
  refine bl ?_
  refine sq fun _ _ => ?_
  refine rg (sg ?_)
  refine nx ?_
  refine cb (fun g1 => ?_) (fun g1 => ?_)
  · refine sq fun _ _ => ?_
    refine rg (sg ?_)
    refine nx ?_
    refine rt (sg ?_)
    refine f1 (g := sg ?_)
    exact ax [] ⟨congrArg A.bool (aggB_1 g1).symm, rfl⟩
  · refine sq fun _ _ => ?_
    refine sq fun _ _ => ?_
    refine rg (sg ?_)
    refine nx ?_
    refine cb (fun g2 => ?_) (fun g2 => ?_)
    · refine sk (sg ?_)
      refine nx ?_
      refine cb (fun gx => ?_) (fun gx => ?_)
      · have ho : 2 ≤ a.op ∧ a.op ≤ 5 := by omega
        refine sq fun _ _ => ?_
        refine rg (sg ?_)
        refine cl [] (sg ?_)
        refine (c27 _ (by first | assumption | omega | trivial | rfl)).mono ?_
        rintro r bx ⟨rfl, rfl⟩
        refine sg ?_
        refine nx ?_
        refine rt (sg ?_)
        refine f1 (g := sg ?_)
        exact ax [] ⟨congrArg A.bool (by rw [aggB_n g1, decide_eq_true ho, Bool.true_and]), rfl⟩
      · exfalso
        omega
    · refine sq fun _ _ => ?_
      refine rg (sg ?_)
      refine nx ?_
      refine cb (fun g3 => ?_) (fun g3 => ?_)
      · refine sk (sg ?_)
        refine nx ?_
        refine cb (fun gx => ?_) (fun gx => ?_)
        · have ho : 2 ≤ a.op ∧ a.op ≤ 5 := by omega
          refine sq fun _ _ => ?_
          refine rg (sg ?_)
          refine cl [] (sg ?_)
          refine (c27 _ (by first | assumption | omega | trivial | rfl)).mono ?_
          rintro r bx ⟨rfl, rfl⟩
          refine sg ?_
          refine nx ?_
          refine rt (sg ?_)
          refine f1 (g := sg ?_)
          exact ax [] ⟨congrArg A.bool (by rw [aggB_n g1, decide_eq_true ho, Bool.true_and]), rfl⟩
        · exfalso
          omega
      · refine sq fun _ _ => ?_
        refine rg (sg ?_)
        refine nx ?_
        refine cb (fun g4 => ?_) (fun g4 => ?_)
        · refine sk (sg ?_)
          refine nx ?_
          refine cb (fun gx => ?_) (fun gx => ?_)
          · have ho : 2 ≤ a.op ∧ a.op ≤ 5 := by omega
            refine sq fun _ _ => ?_
            refine rg (sg ?_)
            refine cl [] (sg ?_)
            refine (c27 _ (by first | assumption | omega | trivial | rfl)).mono ?_
            rintro r bx ⟨rfl, rfl⟩
            refine sg ?_
            refine nx ?_
            refine rt (sg ?_)
            refine f1 (g := sg ?_)
            exact ax [] ⟨congrArg A.bool (by rw [aggB_n g1, decide_eq_true ho, Bool.true_and]), rfl⟩
          · exfalso
            omega
        · refine rg (sg ?_)
          refine nx ?_
          refine cb (fun g5 => ?_) (fun g5 => ?_)
          · have ho : 2 ≤ a.op ∧ a.op ≤ 5 := by omega
            refine sq fun _ _ => ?_
            refine rg (sg ?_)
            refine cl [] (sg ?_)
            refine (c27 _ (by first | assumption | omega | trivial | rfl)).mono ?_
            rintro r bx ⟨rfl, rfl⟩
            refine sg ?_
            refine nx ?_
            refine rt (sg ?_)
            refine f1 (g := sg ?_)
            exact ax [] ⟨congrArg A.bool (by rw [aggB_n g1, decide_eq_true ho, Bool.true_and]), rfl⟩
          · refine sk (sg ?_)
            refine nx ?_
            refine sq fun _ _ => ?_
            refine rg (sg ?_)
            refine nx ?_
            refine rt ?_
            refine f1 (g := sg ?_)
            exact ax [] ⟨congrArg A.bool (by rw [aggB_n g1, decide_eq_false (show ¬ (2 ≤ a.op ∧ a.op ≤ 5) by omega), Bool.false_and]), rfl⟩
theorem c26 (a : Ae) (hc : a.col.size ≤ 1000) : PC Tryz.prog 26 [aAe a] [] (fun r bx => r = A.bool (aggB a) ∧ bx = []) := by
  refine enter (rs := [.tmp 2]) mx Tryz.func26 Tryz.ntmps26 fun Q0 hQ0 => ?_
  refine sq fun _ _ => ?_
  refine rg (sg ?_)
  refine nx ?_
  refine sq fun _ _ => ?_
  refine sq fun _ _ => ?_
  refine rg (sg ?_)
  refine nx ?_
  refine cb (fun g1 => ?_) (fun g1 => ?_)
  · refine sq fun _ _ => ?_
    refine rg (sg ?_)
    refine nx ?_
    refine rt (sg ?_)
    refine f1 (g := sg ?_)
    exact ax [] ⟨congrArg A.bool (aggB_1 g1).symm, rfl⟩
  · refine sk (sg ?_)
    refine nx ?_
    refine sq fun _ _ => ?_
    by_cases g2 : 2 ≤ a.op
    · by_cases g3 : a.op ≤ 5
      · refine rg ?_
        simp only [go_sem, Nat.reduceAdd, Nat.reduceSub, Nat.reduceMul, Nat.reduceLT, Nat.reduceLeDiff, Nat.reduceEqDiff, reduceIte, reduceCtorEq, if_true, if_false, Int.reduceEq, Int.reduceLT, Int.reduceLE, Int.reduceAdd, Int.reduceSub, Int.reduceMul, Int.reduceNeg, Int.reduceToNat, decide_true, decide_false, Nat.reduceBEq, g2, g3]
        refine cl [] (sg ?_)
        refine (c24 _ (by first | assumption | omega | trivial | rfl)).mono ?_
        rintro r bx ⟨rfl, rfl⟩
        refine sg ?_
        refine nx ?_
        refine rt ?_
        refine f1 (g := sg ?_)
        exact ax [] ⟨congrArg A.bool (by rw [aggB_n g1, decide_eq_true ⟨g2, g3⟩, Bool.true_and]), rfl⟩
      · refine rg ?_
        simp only [go_sem, Nat.reduceAdd, Nat.reduceSub, Nat.reduceMul, Nat.reduceLT, Nat.reduceLeDiff, Nat.reduceEqDiff, reduceIte, reduceCtorEq, if_true, if_false, Int.reduceEq, Int.reduceLT, Int.reduceLE, Int.reduceAdd, Int.reduceSub, Int.reduceMul, Int.reduceNeg, Int.reduceToNat, decide_true, decide_false, Nat.reduceBEq, g2, g3]
        refine nx ?_
        refine rt ?_
        refine f1 (g := sg ?_)
        refine And.intro (by first | assumption | omega | rfl | trivial) ?_
        exact ax [] ⟨congrArg A.bool (by rw [aggB_n g1, decide_eq_false (fun h => g3 h.2), Bool.false_and]), rfl⟩
    · refine rg ?_
      simp only [go_sem, Nat.reduceAdd, Nat.reduceSub, Nat.reduceMul, Nat.reduceLT, Nat.reduceLeDiff, Nat.reduceEqDiff, reduceIte, reduceCtorEq, if_true, if_false, Int.reduceEq, Int.reduceLT, Int.reduceLE, Int.reduceAdd, Int.reduceSub, Int.reduceMul, Int.reduceNeg, Int.reduceToNat, decide_true, decide_false, Nat.reduceBEq, g2]
      refine nx ?_
      refine rt ?_
      refine f1 (g := sg ?_)
      refine And.intro (by first | assumption | omega | rfl | trivial) ?_
      exact ax [] ⟨congrArg A.bool (by rw [aggB_n g1, decide_eq_false (fun h => g2 h.1), Bool.false_and]), rfl⟩
theorem c52n (x : ByteArray) (t : TypeId) (hx : ByteArray.size x ≤ 1000) : PC Tryz.prog 52 [A.str x, xPtr 0 0] [.var [.fn 27 []] t] (fun r bx => r = A.bool (!nameB x) ∧ bx = [.var [.fn 27 []] t]) := by
  refine enter (rs := [.tmp 3]) mx Tryz.func52 Tryz.ntmps52 fun Q0 hQ0 => ?_
  refine sq fun _ _ => ?_
  refine rg (sg ?_)
  refine nx ?_
  refine sq fun _ _ => ?_
  refine rg (sg ?_)
  refine cl [] (sg ?_)
  refine (c27 _ (by first | assumption | omega | trivial | rfl)).mono ?_
  rintro r bx ⟨rfl, rfl⟩
  refine sg ?_
  refine nx ?_
  refine rt ?_
  refine f1 (g := sg ?_)
  exact ax [] ⟨rfl, rfl⟩
theorem c72n (l : List (ByteArray)) (t : TypeId) (hl : l.length ≤ 1000) (hs : ∀ x ∈ l, ByteArray.size x ≤ 1000) : PC Tryz.prog 72 [xRow l.length 1 (elemsOf (l.map cSt)), .one (.fn 52 [0])] [.var [.fn 27 []] t] (fun r bx => (∃ k : Int, r = A.int .i64 k ∧ (0 ≤ k ↔ ∃ x ∈ l, nameB x = false)) ∧ bx = [.var [.fn 27 []] t]) := by
  refine enter (rs := [.tmp 4]) mx Tryz.func72 Tryz.ntmps72 fun Q0 hQ0 => ?_
  refine sq fun _ _ => ?_
  refine rg (sg ?_)
  refine nx ?_
  refine sq fun _ _ => ?_
  refine sq fun _ _ => ?_
  refine rg (sg ?_)
  refine nx ?_
  refine bl ?_
  refine lp [0, 1, 7, 8] [] (fun k σ => ∃ i : Nat, k = l.length - i ∧ i ≤ l.length ∧ (∀ (j : Nat) (h : j < l.length), j < i → nameB l[j] = true) ∧ σ = ⟨19, 1, [(0, xRow l.length 1 (elemsOf (List.map cSt l))), (1, A.one (L.fn 52 [0])), (7, A.int .i64 l.length), (8, A.int .i64 i)], [.var [.fn 27 []] t]⟩) l.length ?_ ?_
  · exact ⟨0, by omega, by omega, fun j h h2 => absurd h2 (Nat.not_lt_zero _), keq⟩
  · rintro k σ' ⟨i, hk, hi, hw, rfl⟩ Q1 hQ1
    refine sq fun _ _ => ?_
    refine rg (sg ?_)
    refine nx ?_
    refine sq fun _ _ => ?_
    refine cb (fun h => ?_) (fun h => ?_)
    · have hin : i < l.length := by omega
      have hwi : IntKind.i64.wrap ((i : Int) + 1) = ((i + 1 : Nat) : Int) := wrap_succ (by omega)
      have he := el_at (f := cSt) hin
      have hsz := hs l[i] (List.getElem_mem hin)
      refine sk (sg ?_)
      refine nx ?_
      refine sq fun _ _ => ?_
      refine bl ?_
      refine sq fun _ _ => ?_
      refine rg (sg ?_)
      refine nx ?_
      refine sq fun _ _ => ?_
      refine rg (sg ?_)
      refine and_assoc.2 ?_
      refine And.intro (by first | assumption | omega | rfl | trivial) ?_
      refine And.intro (by first | assumption | omega | rfl | trivial) ?_
      refine cl [0] (sg ?_)
      simp (disch := omega) only [el_at]
      refine sg ?_
      refine (c52n l[i] t hsz).mono ?_
      rintro r bx ⟨rfl, rfl⟩
      refine sg ?_
      refine nx ?_
      refine cb (fun h2 => ?_) (fun h2 => ?_)
      · have h3 : nameB l[i] = false := by simpa using h2
        refine sq fun _ _ => ?_
        refine rg (sg ?_)
        refine nx ?_
        refine rt (sg ?_)
        refine lr (g := sg ?_)
        refine f1 (g := sg ?_)
        exact ax [] ⟨⟨i, rfl, fun _ => ⟨l[i], List.getElem_mem hin, h3⟩, fun _ => by omega⟩, rfl⟩
      · have hw2 : ∀ (j : Nat) (h : j < l.length), j < i + 1 → nameB l[j] = true := by
          intro j hj h3
          by_cases hji : j = i
          · subst hji
            simpa using h2
          · exact hw j hj (by omega)
        refine sk (sg ?_)
        refine nx ?_
        refine rg (sg ?_)
        simp (disch := omega) only [wrap_succ]
        refine ln (l.length - (i + 1)) [] ?_ ?_
        · omega
        exact ⟨i + 1, by omega, by omega, hw2, keq⟩
    · refine xt (sg ?_)
      refine lx (g := sg ?_)
      refine nx ?_
      refine sq fun _ _ => ?_
      refine rg (sg ?_)
      refine nx ?_
      refine rt ?_
      refine f1 (g := sg ?_)
      refine ax [] ⟨⟨-1, rfl, fun h => by omega, fun ⟨x, hx, h3⟩ => ?_⟩, rfl⟩
      obtain ⟨j, hj, rfl⟩ := List.getElem_of_mem hx
      rw [hw j hj (by omega)] at h3
      cases h3
theorem c51n (l : List (ByteArray)) (t : TypeId) (hl : l.length ≤ 1000) (hs : ∀ x ∈ l, ByteArray.size x ≤ 1000) : PC Tryz.prog 51 [xRow l.length 1 (elemsOf (l.map cSt)), .one (.fn 52 [0])] [.var [.fn 27 []] t] (fun r bx => r = A.bool (!l.all nameB) ∧ bx = [.var [.fn 27 []] t]) := by
  refine enter (rs := [.tmp 4]) mx Tryz.func51 Tryz.ntmps51 fun Q0 hQ0 => ?_
  refine sq fun _ _ => ?_
  refine rg (sg ?_)
  refine nx ?_
  refine sq fun _ _ => ?_
  refine rg (sg ?_)
  refine cl [0] (sg ?_)
  refine (c72n l t hl hs).mono ?_
  rintro r bx ⟨⟨n, rfl, hn⟩, rfl⟩
  refine sg ?_
  refine nx ?_
  refine rt ?_
  refine f1 (g := sg ?_)
  refine ax [] ⟨congrArg A.bool ?_, rfl⟩
  rw [Bool.eq_iff_iff, decide_eq_true_eq, hn, Bool.not_eq_true', ← Bool.not_eq_true, List.all_eq_true]
  simp
theorem c29n (l : List (ByteArray)) (hl : l.length ≤ 1000) (hs : ∀ x ∈ l, ByteArray.size x ≤ 1000) : PC Tryz.prog 29 [xRow l.length 1 (elemsOf (l.map cSt)), .one (.fn 27 [])] [] (fun r bx => r = A.bool (l.all nameB) ∧ bx = []) := by
  refine enter (rs := [.tmp 4]) mx Tryz.func29 Tryz.ntmps29 fun Q0 hQ0 => ?_
  refine sq fun _ _ => ?_
  refine rg (sg ?_)
  refine nx ?_
  refine sq fun _ _ => ?_
  refine rg (sg ?_)
  refine cl [0] (sg ?_)
  refine (c51n l _ hl hs).mono ?_
  rintro r bx ⟨rfl, rfl⟩
  refine sg ?_
  refine nx ?_
  refine rt ?_
  refine f1 (g := sg ?_)
  exact ax [] ⟨congrArg A.bool (Bool.not_not _), rfl⟩
theorem c57a (x : Ae) (t : TypeId) (hx : (fun a : Ae => a.col.size) x ≤ 1000) : PC Tryz.prog 57 [aAe x, xPtr 0 0] [.var [.fn 32 []] t] (fun r bx => r = A.bool (!aggB x) ∧ bx = [.var [.fn 32 []] t]) := by
  refine enter (rs := [.tmp 3]) mx Tryz.func57 Tryz.ntmps57 fun Q0 hQ0 => ?_
  refine sq fun _ _ => ?_
  refine rg (sg ?_)
  refine nx ?_
  refine sq fun _ _ => ?_
  refine rg (sg ?_)
  refine cl [] (sg ?_)
  refine (c32 _ (by first | assumption | omega | trivial | rfl)).mono ?_
  rintro r bx ⟨rfl, rfl⟩
  refine sg ?_
  refine nx ?_
  refine rt ?_
  refine f1 (g := sg ?_)
  exact ax [] ⟨rfl, rfl⟩
theorem c76a (l : List (Ae)) (t : TypeId) (hl : l.length ≤ 1000) (hs : ∀ x ∈ l, (fun a : Ae => a.col.size) x ≤ 1000) : PC Tryz.prog 76 [xRow l.length 2 (elemsOf (l.map cAe)), .one (.fn 57 [0])] [.var [.fn 32 []] t] (fun r bx => (∃ k : Int, r = A.int .i64 k ∧ (0 ≤ k ↔ ∃ x ∈ l, aggB x = false)) ∧ bx = [.var [.fn 32 []] t]) := by
  refine enter (rs := [.tmp 4]) mx Tryz.func76 Tryz.ntmps76 fun Q0 hQ0 => ?_
  refine sq fun _ _ => ?_
  refine rg (sg ?_)
  refine nx ?_
  refine sq fun _ _ => ?_
  refine sq fun _ _ => ?_
  refine rg (sg ?_)
  refine nx ?_
  refine bl ?_
  refine lp [0, 1, 7, 8] [] (fun k σ => ∃ i : Nat, k = l.length - i ∧ i ≤ l.length ∧ (∀ (j : Nat) (h : j < l.length), j < i → aggB l[j] = true) ∧ σ = ⟨19, 1, [(0, xRow l.length 2 (elemsOf (List.map cAe l))), (1, A.one (L.fn 57 [0])), (7, A.int .i64 l.length), (8, A.int .i64 i)], [.var [.fn 32 []] t]⟩) l.length ?_ ?_
  · exact ⟨0, by omega, by omega, fun j h h2 => absurd h2 (Nat.not_lt_zero _), keq⟩
  · rintro k σ' ⟨i, hk, hi, hw, rfl⟩ Q1 hQ1
    refine sq fun _ _ => ?_
    refine rg (sg ?_)
    refine nx ?_
    refine sq fun _ _ => ?_
    refine cb (fun h => ?_) (fun h => ?_)
    · have hin : i < l.length := by omega
      have hwi : IntKind.i64.wrap ((i : Int) + 1) = ((i + 1 : Nat) : Int) := wrap_succ (by omega)
      have he := el_at (f := cAe) hin
      have hsz := hs l[i] (List.getElem_mem hin)
      refine sk (sg ?_)
      refine nx ?_
      refine sq fun _ _ => ?_
      refine bl ?_
      refine sq fun _ _ => ?_
      refine rg (sg ?_)
      refine nx ?_
      refine sq fun _ _ => ?_
      refine rg (sg ?_)
      refine and_assoc.2 ?_
      refine And.intro (by first | assumption | omega | rfl | trivial) ?_
      refine And.intro (by first | assumption | omega | rfl | trivial) ?_
      refine cl [0] (sg ?_)
      simp (disch := omega) only [el_at]
      refine sg ?_
      refine (c57a l[i] t hsz).mono ?_
      rintro r bx ⟨rfl, rfl⟩
      refine sg ?_
      refine nx ?_
      refine cb (fun h2 => ?_) (fun h2 => ?_)
      · have h3 : aggB l[i] = false := by simpa using h2
        refine sq fun _ _ => ?_
        refine rg (sg ?_)
        refine nx ?_
        refine rt (sg ?_)
        refine lr (g := sg ?_)
        refine f1 (g := sg ?_)
        exact ax [] ⟨⟨i, rfl, fun _ => ⟨l[i], List.getElem_mem hin, h3⟩, fun _ => by omega⟩, rfl⟩
      · have hw2 : ∀ (j : Nat) (h : j < l.length), j < i + 1 → aggB l[j] = true := by
          intro j hj h3
          by_cases hji : j = i
          · subst hji
            simpa using h2
          · exact hw j hj (by omega)
        refine sk (sg ?_)
        refine nx ?_
        refine rg (sg ?_)
        simp (disch := omega) only [wrap_succ]
        refine ln (l.length - (i + 1)) [] ?_ ?_
        · omega
        exact ⟨i + 1, by omega, by omega, hw2, keq⟩
    · refine xt (sg ?_)
      refine lx (g := sg ?_)
      refine nx ?_
      refine sq fun _ _ => ?_
      refine rg (sg ?_)
      refine nx ?_
      refine rt ?_
      refine f1 (g := sg ?_)
      refine ax [] ⟨⟨-1, rfl, fun h => by omega, fun ⟨x, hx, h3⟩ => ?_⟩, rfl⟩
      obtain ⟨j, hj, rfl⟩ := List.getElem_of_mem hx
      rw [hw j hj (by omega)] at h3
      cases h3
theorem c56a (l : List (Ae)) (t : TypeId) (hl : l.length ≤ 1000) (hs : ∀ x ∈ l, (fun a : Ae => a.col.size) x ≤ 1000) : PC Tryz.prog 56 [xRow l.length 2 (elemsOf (l.map cAe)), .one (.fn 57 [0])] [.var [.fn 32 []] t] (fun r bx => r = A.bool (!l.all aggB) ∧ bx = [.var [.fn 32 []] t]) := by
  refine enter (rs := [.tmp 4]) mx Tryz.func56 Tryz.ntmps56 fun Q0 hQ0 => ?_
  refine sq fun _ _ => ?_
  refine rg (sg ?_)
  refine nx ?_
  refine sq fun _ _ => ?_
  refine rg (sg ?_)
  refine cl [0] (sg ?_)
  refine (c76a l t hl hs).mono ?_
  rintro r bx ⟨⟨n, rfl, hn⟩, rfl⟩
  refine sg ?_
  refine nx ?_
  refine rt ?_
  refine f1 (g := sg ?_)
  refine ax [] ⟨congrArg A.bool ?_, rfl⟩
  rw [Bool.eq_iff_iff, decide_eq_true_eq, hn, Bool.not_eq_true', ← Bool.not_eq_true, List.all_eq_true]
  simp
theorem c31a (l : List (Ae)) (hl : l.length ≤ 1000) (hs : ∀ x ∈ l, (fun a : Ae => a.col.size) x ≤ 1000) : PC Tryz.prog 31 [xRow l.length 2 (elemsOf (l.map cAe)), .one (.fn 32 [])] [] (fun r bx => r = A.bool (l.all aggB) ∧ bx = []) := by
  refine enter (rs := [.tmp 4]) mx Tryz.func31 Tryz.ntmps31 fun Q0 hQ0 => ?_
  refine sq fun _ _ => ?_
  refine rg (sg ?_)
  refine nx ?_
  refine sq fun _ _ => ?_
  refine rg (sg ?_)
  refine cl [0] (sg ?_)
  refine (c56a l _ hl hs).mono ?_
  rintro r bx ⟨rfl, rfl⟩
  refine sg ?_
  refine nx ?_
  refine rt ?_
  refine f1 (g := sg ?_)
  exact ax [] ⟨congrArg A.bool (Bool.not_not _), rfl⟩
end
section
set_option maxRecDepth 100000
/-! Which queries may be. -/
theorem mayQ_t {q : Qu} (h : nameB q.table = false) : mayQ q = false := by unfold mayQ; rw [h, Bool.false_and, Bool.false_and]
theorem mayQ_w {q : Qu} (h : mayP q.whr = false) : mayQ q = false := by unfold mayQ; rw [h, Bool.and_false, Bool.false_and]
theorem mayQ_c {q : Qu} (h1 : nameB q.table = true) (h2 : mayP q.whr = true) (h3 : q.aggs.length = 0) : mayQ q = (decide (q.by_ = e0) && decide (q.cols.length ≤ 6) && q.cols.all nameB && decide q.cols.Nodup) := by
  unfold mayQ
  rw [h1, h2, if_pos h3, Bool.true_and, Bool.true_and]
theorem mayQ_a {q : Qu} (h1 : nameB q.table = true) (h2 : mayP q.whr = true) (h3 : ¬ q.aggs.length = 0) : mayQ q = (decide (q.aggs.length ≤ 4) && decide (q.cols.length = 0) && q.aggs.all aggB && (decide (q.by_ = e0) || nameB q.by_)) := by
  unfold mayQ
  rw [h1, h2, if_neg h3, Bool.true_and, Bool.true_and]
set_option maxHeartbeats 8000000 in
theorem c13 (q : Qu) (hq : SmQ q) : PC Tryz.prog 13 [aQu q] [] (fun r bx => r = A.bool (mayQ q) ∧ bx = []) := by
  have ht : q.table.size ≤ 1000 := Nat.le_trans hq.table (by omega)
  have hb : q.by_.size ≤ 1000 := Nat.le_trans hq.by_ (by omega)
  have hw := hq.whr
  have hcl : q.cols.length ≤ 1000 := Nat.le_trans hq.cols (by omega)
  have hal : q.aggs.length ≤ 1000 := Nat.le_trans hq.aggs (by omega)
  have hcs : ∀ x ∈ q.cols, ByteArray.size x ≤ 1000 := fun x hx => Nat.le_trans (hq.col x hx) (by omega)
  have has : ∀ x ∈ q.aggs, (fun a : Ae => a.col.size) x ≤ 1000 := fun x hx => Nat.le_trans (hq.agg x hx) (by omega)
  refine enter (rs := [.tmp 2]) mx Tryz.func13 Tryz.ntmps13 fun Q0 hQ0 => ?_
  refine sq fun _ _ => ?_
  refine rg (sg ?_)
  refine nx ?_
  refine sq fun _ _ => ?_
  refine bl ?_
  refine sq fun _ _ => ?_
  refine rgs 3 (sgt ?_)
  refine cl [] (sg ?_)
  refine (c27 _ (by first | assumption | omega | trivial | rfl)).mono ?_
  rintro r bx ⟨rfl, rfl⟩
  refine sg ?_
  refine hr 5 (sgt ?_)
  simp only [undef]
  cases h1 : nameB q.table
  · simp (disch := omega) only [el_at]
    refine sg ?_
    refine hrl (sg ?_)
    refine nx ?_
    refine ct (hx := ?_)
    refine sq fun _ _ => ?_
    refine rg (sg ?_)
    refine nx ?_
    refine rt (sg ?_)
    refine f1 (g := sg ?_)
    exact ax [] ⟨congrArg A.bool (mayQ_t h1).symm, rfl⟩
  · simp (disch := omega) only [el_at]
    refine sg ?_
    refine cl [] (sg ?_)
    refine (c28 _ (by first | assumption | omega | trivial | rfl)).mono ?_
    rintro r bx ⟨rfl, rfl⟩
    refine sg ?_
    refine hrl (sg ?_)
    refine nx ?_
    cases h2 : mayP q.whr
    · refine ct (hx := ?_)
      refine sq fun _ _ => ?_
      refine rg (sg ?_)
      refine nx ?_
      refine rt (sg ?_)
      refine f1 (g := sg ?_)
      exact ax [] ⟨congrArg A.bool (mayQ_w h2).symm, rfl⟩
    · refine cf (hy := ?_)
      refine sq fun _ _ => ?_
      refine rg (sg ?_)
      refine nx ?_
      refine cb (fun h3 => ?_) (fun h3 => ?_)
      · have h3n : q.aggs.length = 0 := by omega
        refine sq fun _ _ => ?_
        by_cases c1 : q.by_ = e0
        · by_cases c2 : (q.cols.length : Int) ≤ 6
          · have c2n : q.cols.length ≤ 6 := by omega
            refine rgs 13 ?_
            simp only [go_sem, Nat.reduceAdd, Nat.reduceSub, Nat.reduceMul, Nat.reduceLT, Nat.reduceLeDiff, Nat.reduceEqDiff, reduceIte, reduceCtorEq, if_true, if_false, Int.reduceEq, Int.reduceLT, Int.reduceLE, Int.reduceAdd, Int.reduceSub, Int.reduceMul, Int.reduceNeg, Int.reduceToNat, decide_true, decide_false, Nat.reduceBEq, c1, c2, List.take_succ_cons, List.take_zero, List.drop_succ_cons, List.drop_zero]
            refine cl [] (sg ?_)
            refine (c29n q.cols hcl hcs).mono ?_
            rintro r bx ⟨rfl, rfl⟩
            refine sg ?_
            cases c3 : q.cols.all nameB
            · refine hr 5 (sgt ?_)
              refine hrl (sg ?_)
              refine nx ?_
              refine rt (sg ?_)
              refine f1 (g := sg ?_)
              refine And.intro (by first | assumption | omega | rfl | trivial) ?_
              exact ax [] ⟨congrArg A.bool (by rw [mayQ_c h1 h2 h3n, c3, Bool.and_false, Bool.false_and]), rfl⟩
            · refine hr 5 (sgt ?_)
              refine cl [] (sg ?_)
              refine (c30 _ (by first | assumption | omega | trivial | rfl)).mono ?_
              rintro r bx ⟨rfl, rfl⟩
              refine sg ?_
              refine hrl (sg ?_)
              refine nx ?_
              refine rt (sg ?_)
              refine f1 (g := sg ?_)
              exact ax [] ⟨congrArg A.bool (by rw [mayQ_c h1 h2 h3n, c3, decide_eq_true c1, decide_eq_true c2n, Bool.true_and, Bool.true_and, Bool.true_and]), rfl⟩
          · have c2n : ¬ q.cols.length ≤ 6 := by omega
            refine rg ?_
            simp only [go_sem, Nat.reduceAdd, Nat.reduceSub, Nat.reduceMul, Nat.reduceLT, Nat.reduceLeDiff, Nat.reduceEqDiff, reduceIte, reduceCtorEq, if_true, if_false, Int.reduceEq, Int.reduceLT, Int.reduceLE, Int.reduceAdd, Int.reduceSub, Int.reduceMul, Int.reduceNeg, Int.reduceToNat, decide_true, decide_false, Nat.reduceBEq, c1, c2]
            simp only [undef]
            refine sg ?_
            refine nx ?_
            refine rt (sg ?_)
            refine f1 (g := sg ?_)
            exact ax [] ⟨congrArg A.bool (by rw [mayQ_c h1 h2 h3n, decide_eq_false c2n, Bool.and_false, Bool.false_and, Bool.false_and]), rfl⟩
        · refine rg ?_
          simp only [go_sem, Nat.reduceAdd, Nat.reduceSub, Nat.reduceMul, Nat.reduceLT, Nat.reduceLeDiff, Nat.reduceEqDiff, reduceIte, reduceCtorEq, if_true, if_false, Int.reduceEq, Int.reduceLT, Int.reduceLE, Int.reduceAdd, Int.reduceSub, Int.reduceMul, Int.reduceNeg, Int.reduceToNat, decide_true, decide_false, Nat.reduceBEq, c1]
          simp only [undef]
          refine sg ?_
          refine nx ?_
          refine rt (sg ?_)
          refine f1 (g := sg ?_)
          exact ax [] ⟨congrArg A.bool (by rw [mayQ_c h1 h2 h3n, decide_eq_false c1, Bool.false_and, Bool.false_and, Bool.false_and]), rfl⟩
      · have h3n : ¬ q.aggs.length = 0 := by omega
        refine sk (sg ?_)
        refine nx ?_
        refine sq fun _ _ => ?_
        by_cases c1 : (q.aggs.length : Int) ≤ 4
        · have c1n : q.aggs.length ≤ 4 := by omega
          by_cases c2 : (q.cols.length : Int) = 0
          · have c2n : q.cols.length = 0 := by omega
            by_cases c4 : q.by_ = e0
            · refine rgs 14 ?_
              simp only [go_sem, Nat.reduceAdd, Nat.reduceSub, Nat.reduceMul, Nat.reduceLT, Nat.reduceLeDiff, Nat.reduceEqDiff, reduceIte, reduceCtorEq, if_true, if_false, Int.reduceEq, Int.reduceLT, Int.reduceLE, Int.reduceAdd, Int.reduceSub, Int.reduceMul, Int.reduceNeg, Int.reduceToNat, decide_true, decide_false, Nat.reduceBEq, c1, c2, c4, List.take_succ_cons, List.take_zero, List.drop_succ_cons, List.drop_zero]
              refine cl [] (sg ?_)
              refine (c31a q.aggs hal has).mono ?_
              rintro r bx ⟨rfl, rfl⟩
              refine sg ?_
              cases c3 : q.aggs.all aggB
              · refine hr 9 (sgt ?_)
                refine hrl (sg ?_)
                refine nx ?_
                refine rt ?_
                refine f1 (g := sg ?_)
                refine And.intro (by first | assumption | omega | rfl | trivial) ?_
                exact ax [] ⟨congrArg A.bool (by rw [mayQ_a h1 h2 h3n, c3, Bool.and_false, Bool.false_and]), rfl⟩
              · have hm : mayQ q = (decide (q.by_ = e0) || nameB q.by_) := by rw [mayQ_a h1 h2 h3n, c3, decide_eq_true c1n, decide_eq_true c2n, Bool.true_and, Bool.true_and, Bool.true_and]
                refine hr 9 (sgt ?_)
                refine hrl (sg ?_)
                refine And.intro (by first | assumption | omega | rfl | trivial) ?_
                refine nx ?_
                refine rt ?_
                refine f1 (g := sg ?_)
                refine And.intro (by first | assumption | omega | rfl | trivial) ?_
                exact ax [] ⟨congrArg A.bool (by rw [hm, decide_eq_true c4, Bool.true_or]), rfl⟩
            · refine rgs 14 ?_
              simp only [go_sem, Nat.reduceAdd, Nat.reduceSub, Nat.reduceMul, Nat.reduceLT, Nat.reduceLeDiff, Nat.reduceEqDiff, reduceIte, reduceCtorEq, if_true, if_false, Int.reduceEq, Int.reduceLT, Int.reduceLE, Int.reduceAdd, Int.reduceSub, Int.reduceMul, Int.reduceNeg, Int.reduceToNat, decide_true, decide_false, Nat.reduceBEq, c1, c2, c4, List.take_succ_cons, List.take_zero, List.drop_succ_cons, List.drop_zero]
              refine cl [] (sg ?_)
              refine (c31a q.aggs hal has).mono ?_
              rintro r bx ⟨rfl, rfl⟩
              refine sg ?_
              cases c3 : q.aggs.all aggB
              · refine hr 9 (sgt ?_)
                refine hrl (sg ?_)
                refine nx ?_
                refine rt ?_
                refine f1 (g := sg ?_)
                simp only [undef]
                simp only [go_sem, Nat.reduceAdd, Nat.reduceSub, Nat.reduceMul, Nat.reduceLT, Nat.reduceLeDiff, Nat.reduceEqDiff, reduceIte, reduceCtorEq, if_true, if_false, Int.reduceEq, Int.reduceLT, Int.reduceLE, Int.reduceAdd, Int.reduceSub, Int.reduceMul, Int.reduceNeg, Int.reduceToNat, decide_true, decide_false, Nat.reduceBEq, c4, cond_false]
                exact ax [] ⟨congrArg A.bool (by rw [mayQ_a h1 h2 h3n, c3, Bool.and_false, Bool.false_and]), rfl⟩
              · have hm : mayQ q = (decide (q.by_ = e0) || nameB q.by_) := by rw [mayQ_a h1 h2 h3n, c3, decide_eq_true c1n, decide_eq_true c2n, Bool.true_and, Bool.true_and, Bool.true_and]
                refine hr 9 (sgt ?_)
                simp only [undef]
                refine ⟨fun h => ⟨h, ?_⟩, fun h => absurd h c4⟩
                refine cl [] (sg ?_)
                refine (c27 _ (by first | assumption | omega | trivial | rfl)).mono ?_
                rintro r bx ⟨rfl, rfl⟩
                refine sg ?_
                refine hrl (sg ?_)
                refine nx ?_
                refine rt ?_
                refine f1 (g := sg ?_)
                exact ax [] ⟨congrArg A.bool hm.symm, rfl⟩
          · have c2n : ¬ q.cols.length = 0 := by omega
            refine rg ?_
            simp only [go_sem, Nat.reduceAdd, Nat.reduceSub, Nat.reduceMul, Nat.reduceLT, Nat.reduceLeDiff, Nat.reduceEqDiff, reduceIte, reduceCtorEq, if_true, if_false, Int.reduceEq, Int.reduceLT, Int.reduceLE, Int.reduceAdd, Int.reduceSub, Int.reduceMul, Int.reduceNeg, Int.reduceToNat, decide_true, decide_false, Nat.reduceBEq, c1, c2]
            simp only [undef]
            refine sg ?_
            refine nx ?_
            refine rt ?_
            refine f1 (g := sg ?_)
            by_cases c4 : q.by_ = e0
            · simp only [go_sem, Nat.reduceAdd, Nat.reduceSub, Nat.reduceMul, Nat.reduceLT, Nat.reduceLeDiff, Nat.reduceEqDiff, reduceIte, reduceCtorEq, if_true, if_false, Int.reduceEq, Int.reduceLT, Int.reduceLE, Int.reduceAdd, Int.reduceSub, Int.reduceMul, Int.reduceNeg, Int.reduceToNat, decide_true, decide_false, Nat.reduceBEq, c4, cond_true]
              exact ax [] ⟨congrArg A.bool (by rw [mayQ_a h1 h2 h3n, decide_eq_false c2n, Bool.and_false, Bool.false_and, Bool.false_and]), rfl⟩
            · simp only [go_sem, Nat.reduceAdd, Nat.reduceSub, Nat.reduceMul, Nat.reduceLT, Nat.reduceLeDiff, Nat.reduceEqDiff, reduceIte, reduceCtorEq, if_true, if_false, Int.reduceEq, Int.reduceLT, Int.reduceLE, Int.reduceAdd, Int.reduceSub, Int.reduceMul, Int.reduceNeg, Int.reduceToNat, decide_true, decide_false, Nat.reduceBEq, c4, cond_false]
              exact ax [] ⟨congrArg A.bool (by rw [mayQ_a h1 h2 h3n, decide_eq_false c2n, Bool.and_false, Bool.false_and, Bool.false_and]), rfl⟩
        · have c1n : ¬ q.aggs.length ≤ 4 := by omega
          refine rg ?_
          simp only [go_sem, Nat.reduceAdd, Nat.reduceSub, Nat.reduceMul, Nat.reduceLT, Nat.reduceLeDiff, Nat.reduceEqDiff, reduceIte, reduceCtorEq, if_true, if_false, Int.reduceEq, Int.reduceLT, Int.reduceLE, Int.reduceAdd, Int.reduceSub, Int.reduceMul, Int.reduceNeg, Int.reduceToNat, decide_true, decide_false, Nat.reduceBEq, c1]
          simp only [undef]
          refine sg ?_
          refine nx ?_
          refine rt ?_
          refine f1 (g := sg ?_)
          by_cases c4 : q.by_ = e0
          · simp only [go_sem, Nat.reduceAdd, Nat.reduceSub, Nat.reduceMul, Nat.reduceLT, Nat.reduceLeDiff, Nat.reduceEqDiff, reduceIte, reduceCtorEq, if_true, if_false, Int.reduceEq, Int.reduceLT, Int.reduceLE, Int.reduceAdd, Int.reduceSub, Int.reduceMul, Int.reduceNeg, Int.reduceToNat, decide_true, decide_false, Nat.reduceBEq, c4, cond_true]
            exact ax [] ⟨congrArg A.bool (by rw [mayQ_a h1 h2 h3n, decide_eq_false c1n, Bool.false_and, Bool.false_and, Bool.false_and]), rfl⟩
          · simp only [go_sem, Nat.reduceAdd, Nat.reduceSub, Nat.reduceMul, Nat.reduceLT, Nat.reduceLeDiff, Nat.reduceEqDiff, reduceIte, reduceCtorEq, if_true, if_false, Int.reduceEq, Int.reduceLT, Int.reduceLE, Int.reduceAdd, Int.reduceSub, Int.reduceMul, Int.reduceNeg, Int.reduceToNat, decide_true, decide_false, Nat.reduceBEq, c4, cond_false]
            exact ax [] ⟨congrArg A.bool (by rw [mayQ_a h1 h2 h3n, decide_eq_false c1n, Bool.false_and, Bool.false_and, Bool.false_and]), rfl⟩
end
section
set_option maxRecDepth 100000
/-! The law's own: small queries, and those that may be. -/
abbrev boxQ (q : Qu) : B := .var [xS q.table, .c (.sl q.cols.length 1 (elemsOf (q.cols.map cSt))), xI q.whr.op, xS q.whr.col, xI q.whr.cmp, xB q.whr.val.nl, xI q.whr.val.i, xS q.whr.val.s, xI q.whr.kind, xS q.whr.pat, .c (.sl q.whr.kids.length 9 (elemsOf (q.whr.kids.map cPr))), .c (.sl q.aggs.length 2 (elemsOf (q.aggs.map cAe))), xS q.by_] 30
set_option maxHeartbeats 8000000 in
theorem c5w (q : Qu) : PC Tryz.prog 5 [aQu q] [] (fun r bx => (∃ b, r = A.bool b ∧ (b = true → SmQ q)) ∧ bx = []) := by
  refine enter (rs := [.tmp 2]) mx Tryz.func5 Tryz.ntmps5 fun Q0 hQ0 => ?_
  refine sq fun _ _ => ?_
  refine rg (sg ?_)
  refine nx ?_
  refine sq fun _ _ => ?_
  refine sq fun _ _ => ?_
  refine rg (sg ?_)
  refine nx ?_
  refine bl ?_
  refine lp [1, 3] [0] (fun k σ => ∃ i : Nat, k = q.cols.length - i ∧ i ≤ q.cols.length ∧ i ≤ 20 ∧ (∀ (j : Nat) (h : j < q.cols.length), j < i → q.cols[j].size ≤ 100) ∧ σ = ⟨69, 0, [(1, xPtr 0 0), (3, A.int .i64 i)], [boxQ q]⟩) q.cols.length ?_ ?_
  · exact ⟨0, by omega, by omega, by omega, fun j h h2 => absurd h2 (Nat.not_lt_zero _), keq⟩
  · rintro k σ' ⟨i, hk, hi, hi2, hw, rfl⟩ Q1 hQ1
    refine sq fun _ _ => ?_
    refine sq fun _ _ => ?_
    refine rg (sg ?_)
    refine nx ?_
    refine cb (fun h => ?_) (fun h => ?_)
    · have hin : i < q.cols.length := by omega
      have hwi : IntKind.i64.wrap ((i : Int) + 1) = ((i + 1 : Nat) : Int) := wrap_succ (by omega)
      have hee := el_at (f := cSt) hin
      refine sk (sg ?_)
      refine nx ?_
      refine sq fun _ _ => ?_
      refine bl ?_
      refine sq fun _ _ => ?_
      refine rg (sg ?_)
      refine and_assoc.2 ?_
      refine And.intro (by first | assumption | omega | rfl | trivial) ?_
      refine And.intro (by first | assumption | omega | rfl | trivial) ?_
      simp (disch := omega) only [el_at]
      refine sg ?_
      refine nx ?_
      refine cb (fun h2 => ?_) (fun h2 => ?_)
      · refine sq fun _ _ => ?_
        refine rg (sg ?_)
        refine nx ?_
        refine rt (sg ?_)
        refine lr (g := sg ?_)
        refine f1 (g := sg ?_)
        exact ax [] ⟨⟨false, rfl, fun h => (nomatch h)⟩, rfl⟩
      · have hw2 : ∀ (j : Nat) (h : j < q.cols.length), j < i + 1 → q.cols[j].size ≤ 100 := by
          intro j hj h3
          by_cases hji : j = i
          · subst hji
            omega
          · exact hw j hj (by omega)
        refine sk (sg ?_)
        refine nx ?_
        refine rg (sg ?_)
        simp (disch := omega) only [wrap_succ]
        refine ln (q.cols.length - (i + 1)) [0] ?_ ?_
        · omega
        exact ⟨i + 1, by omega, by omega, by omega, hw2, keq⟩
    · have hcs : q.cols.length ≤ 15 → ∀ c ∈ q.cols, c.size ≤ 100 := by
        intro h15 c hc
        obtain ⟨j, hj, rfl⟩ := List.getElem_of_mem hc
        exact hw j hj (by omega)
      clear hw
      refine xt (sg ?_)
      refine lx (g := sg ?_)
      refine nx ?_
      refine sq fun _ _ => ?_
      refine sq fun _ _ => ?_
      refine rg (sg ?_)
      refine nx ?_
      refine bl ?_
      refine lp [1, 4] [0] (fun k σ => ∃ i : Nat, k = q.aggs.length - i ∧ i ≤ q.aggs.length ∧ i ≤ 20 ∧ (∀ (j : Nat) (h : j < q.aggs.length), j < i → q.aggs[j].col.size ≤ 100) ∧ σ = ⟨69, 0, [(1, xPtr 0 0), (4, A.int .i64 i)], [boxQ q]⟩) q.aggs.length ?_ ?_
      · exact ⟨0, by omega, by omega, by omega, fun j h h2 => absurd h2 (Nat.not_lt_zero _), keq⟩
      · rintro k σ' ⟨i, hk, hi, hi2, hw, rfl⟩ Q2 hQ2
        refine sq fun _ _ => ?_
        refine sq fun _ _ => ?_
        refine rg (sg ?_)
        refine nx ?_
        refine cb (fun h => ?_) (fun h => ?_)
        · have hin : i < q.aggs.length := by omega
          have hwi : IntKind.i64.wrap ((i : Int) + 1) = ((i + 1 : Nat) : Int) := wrap_succ (by omega)
          have hee := el_at (f := cAe) hin
          refine sk (sg ?_)
          refine nx ?_
          refine sq fun _ _ => ?_
          refine bl ?_
          refine sq fun _ _ => ?_
          refine rg (sg ?_)
          refine and_assoc.2 ?_
          refine And.intro (by first | assumption | omega | rfl | trivial) ?_
          refine And.intro (by first | assumption | omega | rfl | trivial) ?_
          simp (disch := omega) only [el_at]
          refine sg ?_
          refine nx ?_
          refine cb (fun h2 => ?_) (fun h2 => ?_)
          · refine sq fun _ _ => ?_
            refine rg (sg ?_)
            refine nx ?_
            refine rt (sg ?_)
            refine lr (g := sg ?_)
            refine f1 (g := sg ?_)
            exact ax [] ⟨⟨false, rfl, fun h => (nomatch h)⟩, rfl⟩
          · have hw2 : ∀ (j : Nat) (h : j < q.aggs.length), j < i + 1 → q.aggs[j].col.size ≤ 100 := by
              intro j hj h3
              by_cases hji : j = i
              · subst hji
                omega
              · exact hw j hj (by omega)
            refine sk (sg ?_)
            refine nx ?_
            refine rg (sg ?_)
            simp (disch := omega) only [wrap_succ]
            refine ln (q.aggs.length - (i + 1)) [0] ?_ ?_
            · omega
            exact ⟨i + 1, by omega, by omega, by omega, hw2, keq⟩
        · have has : q.aggs.length ≤ 15 → ∀ a ∈ q.aggs, a.col.size ≤ 100 := by
            intro h15 c hc
            obtain ⟨j, hj, rfl⟩ := List.getElem_of_mem hc
            exact hw j hj (by omega)
          clear hw
          refine xt (sg ?_)
          refine lx (g := sg ?_)
          refine nx ?_
          refine sq fun _ _ => ?_
          refine rg (sg ?_)
          simp only [undef]
          refine ⟨fun hg => ⟨hg, ?_⟩, fun hg => ?_⟩
          · refine cl [] (sg ?_)
            refine (c12at 9 q.whr (by omega)).mono ?_
            rintro r bx ⟨rfl, rfl⟩
            refine sg ?_
            simp only [go_sem, Nat.reduceAdd, Nat.reduceSub, Nat.reduceMul, Nat.reduceLT, Nat.reduceLeDiff, Nat.reduceEqDiff, reduceIte, reduceCtorEq, if_true, if_false, Int.reduceEq, Int.reduceLT, Int.reduceLE, Int.reduceAdd, Int.reduceSub, Int.reduceMul, Int.reduceNeg, Int.reduceToNat, decide_true, decide_false, Nat.reduceBEq, hg, cond_true]
            refine nx ?_
            refine rt ?_
            refine f1 (g := sg ?_)
            have hg2 : q.cols.length ≤ 15 ∧ q.aggs.length ≤ 15 ∧ q.table.size ≤ 100 ∧ q.by_.size ≤ 100 := by
              simp only [Bool.and_eq_true, decide_eq_true_eq] at hg
              omega
            exact ax [] ⟨⟨smP 9 q.whr, rfl, fun h => ⟨hg2.1, hcs hg2.1, hg2.2.1, has hg2.2.1, hg2.2.2.1, hg2.2.2.2, smP_sm 9 _ h⟩⟩, rfl⟩
          · simp only [go_sem, Nat.reduceAdd, Nat.reduceSub, Nat.reduceMul, Nat.reduceLT, Nat.reduceLeDiff, Nat.reduceEqDiff, reduceIte, reduceCtorEq, if_true, if_false, Int.reduceEq, Int.reduceLT, Int.reduceLE, Int.reduceAdd, Int.reduceSub, Int.reduceMul, Int.reduceNeg, Int.reduceToNat, decide_true, decide_false, Nat.reduceBEq, hg, cond_false]
            refine nx ?_
            refine rt ?_
            refine f1 (g := sg ?_)
            exact ax [] ⟨⟨false, rfl, fun h => (nomatch h)⟩, rfl⟩
theorem mayQ_bad {q : Qu} (hm : mayQ q = true) {i : Nat} (h : i < q.cols.length) : nameB q.cols[i] = true ∧ ∀ (k : Nat) (hk : k < i), q.cols[k] ≠ q.cols[i] := by
  rcases mayQ_ask hm with ⟨-, -, -, hn, hd⟩ | ⟨-, -, h0, -⟩
  · exact ⟨hn _ (List.getElem_mem h), fun k hk e => by
      have := List.pairwise_iff_getElem.1 (List.nodup_iff_pairwise_ne.1 hd) k i (by omega) h hk
      exact this e⟩
  · rw [h0] at h
    exact absurd h (Nat.not_lt_zero _)
theorem mayQ_not {q : Qu} (h : mayQ q = true → False) : mayQ q = false := by
  cases hm : mayQ q
  · rfl
  · exact (h hm).elim
set_option maxHeartbeats 8000000 in
theorem c11 (q : Qu) (hq : SmQ q) : PC Tryz.prog 11 [aQu q] [] (fun r bx => r = A.bool (mayQ q) ∧ bx = []) := by
  have ht : q.table.size ≤ 1000 := Nat.le_trans hq.table (by omega)
  have hb : q.by_.size ≤ 1000 := Nat.le_trans hq.by_ (by omega)
  have hw0 := hq.whr
  have hcl : q.cols.length ≤ 1000 := Nat.le_trans hq.cols (by omega)
  have hal : q.aggs.length ≤ 1000 := Nat.le_trans hq.aggs (by omega)
  refine enter (rs := [.tmp 2]) mx Tryz.func11 Tryz.ntmps11 fun Q0 hQ0 => ?_
  refine sq fun _ _ => ?_
  refine rg (sg ?_)
  refine nx ?_
  refine sq fun _ _ => ?_
  refine sq fun _ _ => ?_
  refine rgs 3 (sgt ?_)
  refine cl [] (sg ?_)
  refine (c24 _ (by first | assumption | omega | trivial | rfl)).mono ?_
  rintro r bx ⟨rfl, rfl⟩
  refine sg ?_
  refine hr 5 (sgt ?_)
  simp only [undef]
  cases h1 : nameB q.table
  · simp (disch := omega) only [el_at]
    refine sg ?_
    refine hrl (sg ?_)
    refine nx ?_
    refine ct (hx := ?_)
    refine sq fun _ _ => ?_
    refine rg (sg ?_)
    refine nx ?_
    refine rt (sg ?_)
    refine f1 (g := sg ?_)
    exact ax [] ⟨congrArg A.bool (mayQ_t h1).symm, rfl⟩
  · simp (disch := omega) only [el_at]
    refine sg ?_
    refine cl [] (sg ?_)
    refine (c25 _ (by first | assumption | omega | trivial | rfl)).mono ?_
    rintro r bx ⟨rfl, rfl⟩
    refine sg ?_
    refine hrl (sg ?_)
    refine nx ?_
    cases h2 : mayP q.whr
    · refine ct (hx := ?_)
      refine sq fun _ _ => ?_
      refine rg (sg ?_)
      refine nx ?_
      refine rt (sg ?_)
      refine f1 (g := sg ?_)
      exact ax [] ⟨congrArg A.bool (mayQ_w h2).symm, rfl⟩
    · skip
      refine cb (fun h3 => ?_) (fun h3 => ?_)
      · have hbad : mayQ q = false := mayQ_not fun hm => by
          rcases mayQ_ask hm with ⟨m1, -, m2, -⟩ | ⟨-, m1, m2, -⟩
          · have m3 : q.aggs.length = 0 := by rw [m1]; rfl
            omega
          · have m3 : q.cols.length = 0 := by rw [m2]; rfl
            omega
        refine sq fun _ _ => ?_
        refine rg (sg ?_)
        refine nx ?_
        refine rt (sg ?_)
        refine f1 (g := sg ?_)
        exact ax [] ⟨congrArg A.bool hbad.symm, rfl⟩
      · have hc6 : q.cols.length ≤ 6 ∧ q.aggs.length ≤ 4 := by
          omega
        refine sk (sg ?_)
        refine nx ?_
        refine sq fun _ _ => ?_
        refine sq fun _ _ => ?_
        refine rg (sg ?_)
        refine nx ?_
        refine bl ?_
        refine lp [1, 3] [0] (fun k σ => ∃ i : Nat, k = q.cols.length - i ∧ i ≤ q.cols.length ∧ (∀ (j : Nat) (h : j < q.cols.length), j < i → nameB q.cols[j] = true ∧ ∀ (m : Nat) (hm : m < j), q.cols[m] ≠ q.cols[j]) ∧ σ = ⟨93, 0, [(1, xPtr 0 0), (3, A.int .i64 i)], [boxQ q]⟩) q.cols.length ?_ ?_
        · exact ⟨0, by omega, by omega, fun j h h2 => absurd h2 (Nat.not_lt_zero _), keq⟩
        · rintro k σ' ⟨i, hk, hi, hw, rfl⟩ Q1 hQ1
          refine sq fun _ _ => ?_
          refine sq fun _ _ => ?_
          refine rg (sg ?_)
          refine nx ?_
          refine cb (fun h => ?_) (fun h => ?_)
          · have hin : i < q.cols.length := by omega
            have hwi : IntKind.i64.wrap ((i : Int) + 1) = ((i + 1 : Nat) : Int) := wrap_succ (by omega)
            have hee := el_at (f := cSt) hin
            have hcz : q.cols[i].size ≤ 1000 := Nat.le_trans (hq.col _ (List.getElem_mem hin)) (by omega)
            refine sk (sg ?_)
            refine nx ?_
            refine sq fun _ _ => ?_
            refine bl ?_
            refine sq fun _ _ => ?_
            refine sq fun _ _ => ?_
            refine rg (sg ?_)
            refine and_assoc.2 ?_
            refine And.intro (by first | assumption | omega | rfl | trivial) ?_
            refine And.intro (by first | assumption | omega | rfl | trivial) ?_
            refine cl [] (sg ?_)
            simp (disch := omega) only [el_at]
            refine sg ?_
            refine (c24 _ (by first | assumption | omega | trivial | rfl)).mono ?_
            rintro r bx ⟨rfl, rfl⟩
            refine sg ?_
            refine nx ?_
            cases hnm : nameB q.cols[i]
            · refine ct (hx := ?_)
              refine sq fun _ _ => ?_
              refine rg (sg ?_)
              refine nx ?_
              refine rt (sg ?_)
              refine lr (g := sg ?_)
              refine f1 (g := sg ?_)
              exact ax [] ⟨congrArg A.bool (mayQ_not fun hm => by rw [(mayQ_bad hm hin).1] at hnm; cases hnm).symm, rfl⟩
            · refine cf (hy := ?_)
              refine sk (sg ?_)
              refine nx ?_
              refine sq fun _ _ => ?_
              refine rg (sg ?_)
              refine nx ?_
              refine bl ?_
              refine lp [1, 3, 4] [0] (fun k σ => ∃ j : Nat, k = i - j ∧ j ≤ i ∧ (∀ (m : Nat) (h : m < q.cols.length), m < j → q.cols[m] ≠ q.cols[i]) ∧ σ = ⟨93, 0, [(1, xPtr 0 0), (3, A.int .i64 i), (4, A.int .i64 j)], [boxQ q]⟩) i ?_ ?_
              · exact ⟨0, by omega, by omega, fun j h h2 => absurd h2 (Nat.not_lt_zero _), keq⟩
              · rintro k2 σ2 ⟨j, hk2, hj, hw3, rfl⟩ Q3 hQ3
                refine sq fun _ _ => ?_
                refine sq fun _ _ => ?_
                refine rg (sg ?_)
                refine nx ?_
                refine cb (fun h4 => ?_) (fun h4 => ?_)
                · have hjn : j < q.cols.length := by omega
                  have hjw : IntKind.i64.wrap ((j : Int) + 1) = ((j + 1 : Nat) : Int) := wrap_succ (by omega)
                  have hej := el_at (f := cSt) hjn
                  refine sk (sg ?_)
                  refine nx ?_
                  refine sq fun _ _ => ?_
                  refine bl ?_
                  refine sq fun _ _ => ?_
                  refine dr [.take 0, .take 1, .take 2, .take 3, .take 4, .take 5, .take 6, .take 7, .take 8, .take 9, .take 10] [] (sg ?_)
                  refine and_assoc.2 ?_
                  refine And.intro (by first | assumption | omega | rfl | trivial) ?_
                  refine And.intro (by first | assumption | omega | rfl | trivial) ?_
                  refine and_assoc.2 ?_
                  refine And.intro (by first | assumption | omega | rfl | trivial) ?_
                  refine And.intro (by first | assumption | omega | rfl | trivial) ?_
                  simp (disch := omega) only [el_at]
                  refine sg ?_
                  refine nx ?_
                  refine cb (fun h5 => ?_) (fun h5 => ?_)
                  · refine sq fun _ _ => ?_
                    refine rg (sg ?_)
                    refine nx ?_
                    refine rt (sg ?_)
                    refine lr (g := sg ?_)
                    refine lr (g := sg ?_)
                    refine f1 (g := sg ?_)
                    exact ax [] ⟨congrArg A.bool (mayQ_not fun hm => (mayQ_bad hm hin).2 j (by omega) h5).symm, rfl⟩
                  · have hw4 : ∀ (m : Nat) (h : m < q.cols.length), m < j + 1 → q.cols[m] ≠ q.cols[i] := by
                      intro m hm hm2
                      by_cases hmj : m = j
                      · subst hmj
                        exact h5
                      · exact hw3 m hm (by omega)
                    refine sk (sg ?_)
                    refine nx ?_
                    refine rg (sg ?_)
                    simp (disch := omega) only [wrap_succ]
                    refine ln (i - (j + 1)) [0] ?_ ?_
                    · omega
                    exact ⟨j + 1, by omega, by omega, hw4, keq⟩
                · have hw5 : ∀ (j : Nat) (h : j < q.cols.length), j < i + 1 → nameB q.cols[j] = true ∧ ∀ (m : Nat) (hm : m < j), q.cols[m] ≠ q.cols[j] := by
                    intro m hm h6
                    by_cases hmi : m = i
                    · subst hmi
                      exact ⟨hnm, fun a ha => hw3 a (by omega) (by omega)⟩
                    · exact hw m hm (by omega)
                  refine xt (sg ?_)
                  refine lx (g := sg ?_)
                  refine nx ?_
                  refine rg (sg ?_)
                  simp (disch := omega) only [wrap_succ]
                  refine ln (q.cols.length - (i + 1)) [0] ?_ ?_
                  · omega
                  exact ⟨i + 1, by omega, by omega, hw5, keq⟩
          · have hall : q.cols.all nameB = true := by
              rw [List.all_eq_true]
              intro c hc
              obtain ⟨j, hj, rfl⟩ := List.getElem_of_mem hc
              exact (hw j hj (by omega)).1
            have hnd : q.cols.Nodup := by
              rw [List.nodup_iff_pairwise_ne, List.pairwise_iff_getElem]
              intro a b ha hb hab
              exact (hw b hb (by omega)).2 a hab
            clear hw
            refine xt (sg ?_)
            refine lx (g := sg ?_)
            refine nx ?_
            refine sq fun _ _ => ?_
            refine sq fun _ _ => ?_
            refine rg (sg ?_)
            refine nx ?_
            refine cb (fun h4 => ?_) (fun h4 => ?_)
            · have h4n : q.aggs.length = 0 := by omega
              refine sq fun _ _ => ?_
              refine rg (sg ?_)
              refine nx ?_
              refine rt (sg ?_)
              refine f1 (g := sg ?_)
              exact ax [] ⟨congrArg A.bool (by rw [mayQ_c h1 h2 h4n, hall, decide_eq_true hc6.1, decide_eq_true hnd, Bool.and_true, Bool.and_true, Bool.and_true]), rfl⟩
            · have h4n : ¬ q.aggs.length = 0 := by omega
              refine sk (sg ?_)
              refine nx ?_
              refine sq fun _ _ => ?_
              refine sq fun _ _ => ?_
              refine rg (sg ?_)
              refine nx ?_
              refine bl ?_
              refine lp [1, 5] [0] (fun k σ => ∃ i : Nat, k = q.aggs.length - i ∧ i ≤ q.aggs.length ∧ (∀ (j : Nat) (h : j < q.aggs.length), j < i → aggB q.aggs[j] = true) ∧ σ = ⟨93, 0, [(1, xPtr 0 0), (5, A.int .i64 i)], [boxQ q]⟩) q.aggs.length ?_ ?_
              · exact ⟨0, by omega, by omega, fun j h h2 => absurd h2 (Nat.not_lt_zero _), keq⟩
              · rintro k σ' ⟨i, hk, hi, hw, rfl⟩ Q2 hQ2
                refine sq fun _ _ => ?_
                refine sq fun _ _ => ?_
                refine rg (sg ?_)
                refine nx ?_
                refine cb (fun h5 => ?_) (fun h5 => ?_)
                · have hin : i < q.aggs.length := by omega
                  have hwi : IntKind.i64.wrap ((i : Int) + 1) = ((i + 1 : Nat) : Int) := wrap_succ (by omega)
                  have hee := el_at (f := cAe) hin
                  have hcz : q.aggs[i].col.size ≤ 1000 := Nat.le_trans (hq.agg _ (List.getElem_mem hin)) (by omega)
                  refine sk (sg ?_)
                  refine nx ?_
                  refine sq fun _ _ => ?_
                  refine bl ?_
                  refine sq fun _ _ => ?_
                  refine rg (sg ?_)
                  refine and_assoc.2 ?_
                  refine And.intro (by first | assumption | omega | rfl | trivial) ?_
                  refine And.intro (by first | assumption | omega | rfl | trivial) ?_
                  refine cl [] (sg ?_)
                  simp (disch := omega) only [el_at]
                  refine sg ?_
                  refine (c26 _ (by first | assumption | omega | trivial | rfl)).mono ?_
                  rintro r bx ⟨rfl, rfl⟩
                  refine sg ?_
                  refine nx ?_
                  cases hag : aggB q.aggs[i]
                  · refine ct (hx := ?_)
                    refine sq fun _ _ => ?_
                    refine rg (sg ?_)
                    refine nx ?_
                    refine rt (sg ?_)
                    refine lr (g := sg ?_)
                    refine f1 (g := sg ?_)
                    exact ax [] ⟨congrArg A.bool (by rw [mayQ_a h1 h2 h4n, show q.aggs.all aggB = false from List.all_eq_false.2 ⟨_, List.getElem_mem hin, by rw [hag]; simp⟩, Bool.and_false, Bool.false_and]), rfl⟩
                  · have hw2 : ∀ (j : Nat) (h : j < q.aggs.length), j < i + 1 → aggB q.aggs[j] = true := by
                      intro j hj h3
                      by_cases hji : j = i
                      · subst hji
                        exact hag
                      · exact hw j hj (by omega)
                    refine cf (hy := ?_)
                    refine sk (sg ?_)
                    refine nx ?_
                    refine rg (sg ?_)
                    simp (disch := omega) only [wrap_succ]
                    refine ln (q.aggs.length - (i + 1)) [0] ?_ ?_
                    · omega
                    exact ⟨i + 1, by omega, by omega, hw2, keq⟩
                · have hal2 : q.aggs.all aggB = true := by
                    rw [List.all_eq_true]
                    intro c hc
                    obtain ⟨j, hj, rfl⟩ := List.getElem_of_mem hc
                    exact hw j hj (by omega)
                  clear hw
                  have hmq : mayQ q = (decide (q.cols.length = 0) && (decide (q.by_ = e0) || nameB q.by_)) := by rw [mayQ_a h1 h2 h4n, hal2, decide_eq_true hc6.2, Bool.true_and, Bool.and_true]
                  refine xt (sg ?_)
                  refine lx (g := sg ?_)
                  refine nx ?_
                  refine sq fun _ _ => ?_
                  by_cases c1 : (q.cols.length : Int) = 0
                  · have c1n : q.cols.length = 0 := by omega
                    rw [decide_eq_true c1n, Bool.true_and] at hmq
                    by_cases c2 : q.by_ = e0
                    · rw [decide_eq_true c2, Bool.true_or] at hmq
                      refine rg ?_
                      simp only [go_sem, Nat.reduceAdd, Nat.reduceSub, Nat.reduceMul, Nat.reduceLT, Nat.reduceLeDiff, Nat.reduceEqDiff, reduceIte, reduceCtorEq, if_true, if_false, Int.reduceEq, Int.reduceLT, Int.reduceLE, Int.reduceAdd, Int.reduceSub, Int.reduceMul, Int.reduceNeg, Int.reduceToNat, decide_true, decide_false, Nat.reduceBEq, c1, c2]
                      refine And.intro (by first | assumption | omega | rfl | trivial) ?_
                      refine nx ?_
                      refine rt ?_
                      refine f1 (g := sg ?_)
                      refine And.intro (by first | assumption | omega | rfl | trivial) ?_
                      exact ax [] ⟨congrArg A.bool hmq.symm, rfl⟩
                    · rw [decide_eq_false c2, Bool.false_or] at hmq
                      refine rg ?_
                      simp only [go_sem, Nat.reduceAdd, Nat.reduceSub, Nat.reduceMul, Nat.reduceLT, Nat.reduceLeDiff, Nat.reduceEqDiff, reduceIte, reduceCtorEq, if_true, if_false, Int.reduceEq, Int.reduceLT, Int.reduceLE, Int.reduceAdd, Int.reduceSub, Int.reduceMul, Int.reduceNeg, Int.reduceToNat, decide_true, decide_false, Nat.reduceBEq, c1, c2]
                      refine cl [] (sg ?_)
                      refine (c24 _ (by first | assumption | omega | trivial | rfl)).mono ?_
                      rintro r bx ⟨rfl, rfl⟩
                      refine sg ?_
                      refine nx ?_
                      refine rt ?_
                      refine f1 (g := sg ?_)
                      exact ax [] ⟨congrArg A.bool hmq.symm, rfl⟩
                  · have c1n : ¬ q.cols.length = 0 := by omega
                    rw [decide_eq_false c1n, Bool.false_and] at hmq
                    by_cases c2 : q.by_ = e0
                    · refine rg ?_
                      simp only [go_sem, Nat.reduceAdd, Nat.reduceSub, Nat.reduceMul, Nat.reduceLT, Nat.reduceLeDiff, Nat.reduceEqDiff, reduceIte, reduceCtorEq, if_true, if_false, Int.reduceEq, Int.reduceLT, Int.reduceLE, Int.reduceAdd, Int.reduceSub, Int.reduceMul, Int.reduceNeg, Int.reduceToNat, decide_true, decide_false, Nat.reduceBEq, c1, c2]
                      refine nx ?_
                      refine rt ?_
                      refine f1 (g := sg ?_)
                      refine And.intro (by first | assumption | omega | rfl | trivial) ?_
                      exact ax [] ⟨congrArg A.bool hmq.symm, rfl⟩
                    · refine rg ?_
                      simp only [go_sem, Nat.reduceAdd, Nat.reduceSub, Nat.reduceMul, Nat.reduceLT, Nat.reduceLeDiff, Nat.reduceEqDiff, reduceIte, reduceCtorEq, if_true, if_false, Int.reduceEq, Int.reduceLT, Int.reduceLE, Int.reduceAdd, Int.reduceSub, Int.reduceMul, Int.reduceNeg, Int.reduceToNat, decide_true, decide_false, Nat.reduceBEq, c1, c2]
                      refine nx ?_
                      refine rt ?_
                      refine f1 (g := sg ?_)
                      refine And.intro (by first | assumption | omega | rfl | trivial) ?_
                      exact ax [] ⟨congrArg A.bool hmq.symm, rfl⟩
end
end Go.Proofs.YthinpbnnpelhhaaGreatDoor.V
