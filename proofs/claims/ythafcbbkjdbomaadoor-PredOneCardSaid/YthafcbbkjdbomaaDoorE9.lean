/- Proved: the tied card of firkinlaw17.PredOne: for every two predicates the law returns true, and its inputs read as they did. Conditions: those of the given card (the listed variables of the library read as the program's text lays them), no others. -/
import Derived.Test.YthafcbbkjdbomaaDoorP2
import Derived.Test.YthafcbbkjdbomaaDoorB9
import Derived.Test.YthafcbbkjdbomaaDoorB2
import Derived.Test.YthafcbbkjdbomaaDoorB8
import Derived.Test.YthafcbbkjdbomaaDoorL1
import Derived.Test.YthafcbbkjdbomaaDoorV22
import Derived.Test.YthafcbbkjdbomaaDoorTie
import Derived.Test.YthafcbbkjdbomaaDoorCards
import Derived.WalkKit
import Derived.ProofKit
import Derived.Handy
import Derived.Lay
import Derived.SevenTiedAt
import Derived.Stop.LaidErr
import Derived.Lib.LaidTab
import Derived.Lib.ItoaNum
import Derived.Shelf.Vars
import Derived.Handed
import Derived.Test.YthafcbbkjdbomaaDoorC1
import Derived.ChangeMaps5
import Derived.OpenShut
import Derived.ShutString
import Derived.ChangeOld
import Derived.Carry
namespace Go.Proofs.YthafcbbkjdbomaaDoor.V
open Go Go.RowKit Go.Proofs.YthafcbbkjdbomaaDoorW.PrintLast
open Go.Proofs
set_option linter.unusedVariables false
set_option linter.unusedSimpArgs false
attribute [local irreducible] awp
section
set_option maxRecDepth 100000
/-! Unlike predicates have unlike texts. -/
def rO (r : List UInt8) : Prop := r = [] ∨ ∃ t, r = 41 :: t
def rA (r : List UInt8) : Prop := rO r ∨ ∃ t, r = 32 :: 111 :: 114 :: 32 :: t
def rU (r : List UInt8) : Prop := rA r ∨ ∃ t, r = 32 :: 97 :: 110 :: 100 :: 32 :: t
theorem rU_hd {r : List UInt8} (h : rU r) : ∀ d q, r = d :: q → d = 41 ∨ d = 32 := by
  intro d q e
  rcases h with ((rfl | ⟨t, rfl⟩) | ⟨t, rfl⟩) | ⟨t, rfl⟩
  · cases e
  · left; injection e with e _; exact e.symm
  · right; injection e with e _; exact e.symm
  · right; injection e with e _; exact e.symm
theorem run_split (p : UInt8 → Bool) {a b r s : List UInt8} (ha : ∀ x ∈ a, p x = true) (hb : ∀ x ∈ b, p x = true) (hr : ∀ d q, r = d :: q → p d = false) (hs : ∀ d q, s = d :: q → p d = false) (h : a ++ r = b ++ s) : a = b ∧ r = s := by
  have h1 := runL_all p r hr a ha
  have h2 := runL_all p s hs b hb
  rw [h, h2] at h1
  exact List.append_inj h h1.symm
def nmT (l : List UInt8) : List UInt8 := l.take (runL namC l)
def rsT (l : List UInt8) : List UInt8 := l.drop (runL namC l)
theorem nmT_app {a r : List UInt8} (ha : ∀ x ∈ a, namC x = true) (hr : ∀ d q, r = d :: q → namC d = false) : nmT (a ++ r) = a ∧ rsT (a ++ r) = r := by
  unfold nmT rsT
  rw [runL_all namC r hr a ha]
  simp
theorem nm_all {s : ByteArray} (h : nameB s = true) : ∀ x ∈ bsL s, namC x = true := by
  intro x hx
  obtain ⟨i, hi⟩ := List.getElem?_of_mem hx
  rcases ((nameB_iff s).1 h).1 i x hi with h | h
  · unfold namC; rw [h]; rfl
  · exact h.2
theorem nm_not {s : ByteArray} (h : nameB s = true) : bsL s ≠ [110, 111, 116] := fun e =>
  ((nameB_iff s).1 h).2.1 ⟨#[110, 111, 116]⟩ (by simp [wordsQ]) (ba_ext (by rw [e]))
/-- Which kind of unit a text begins with. -/
def hk (l : List UInt8) : Int :=
  if nmT l = [110, 111, 116] then 5 else if (rsT l).take 2 = [32, 105] then 3 else if (rsT l).take 2 = [32, 108] then 4
  else if (rsT l).take 2 = [32, 61] ∨ (rsT l).take 2 = [32, 60] ∨ (rsT l).take 2 = [32, 62] then 2 else 1
theorem sp32 {r : List UInt8} : ∀ d q, (32 : UInt8) :: r = d :: q → namC d = false := by
  intro d q e
  injection e with e _
  subst e
  rfl
theorem rU_nam {r : List UInt8} (h : rU r) : ∀ d q, r = d :: q → namC d = false := by
  intro d q e
  rcases rU_hd h d q e with rfl | rfl <;> rfl
theorem join1 (x : List UInt8) (sep : List UInt8) : Lib.join [x] sep = x := Lib.join_one _ _
theorem sign_hd {m : Int} (h1 : 1 ≤ m) (h6 : m ≤ 6) (X : List UInt8) : ∃ c t, signL m ++ X = c :: t ∧ (c = 61 ∨ c = 60 ∨ c = 62) := by
  have : m = 1 ∨ m = 2 ∨ m = 3 ∨ m = 4 ∨ m = 5 ∨ m = 6 := by omega
  rcases this with rfl | rfl | rfl | rfl | rfl | rfl
  all_goals exact ⟨_, _, rfl, by decide⟩
theorem hk_op (p : Pr) (hp : HdP p) (h5 : p.op ≤ 5) (r : List UInt8) (hr : rU r) : hk (txP p ++ r) = p.op := by
  rw [txP_eq]
  rcases hp with ⟨h, -⟩ | ⟨h, hn, hc1, hc2, -⟩ | ⟨h, hn, -⟩ | ⟨h, hn, -⟩ | ⟨h, -, -, -, -, -, -, hk1, -⟩
  · rw [if_pos h, h]
    obtain ⟨e1, e2⟩ := nmT_app (a := [97, 108, 108]) (r := r) (by decide) (rU_nam hr)
    unfold hk
    rw [e1, e2]
    rcases hr with ((rfl | ⟨t, rfl⟩) | ⟨t, rfl⟩) | ⟨t, rfl⟩
    all_goals simp
  · rw [if_neg (by omega), if_pos h, h, List.append_assoc]
    obtain ⟨e1, e2⟩ := nmT_app (a := bsL p.col) (r := 32 :: ((signL p.cmp ++ (32 :: valS p.kind p.val)) ++ r)) (nm_all hn) sp32
    unfold hk
    rw [List.cons_append, e1, e2, if_neg (nm_not hn)]
    obtain ⟨c, t, e3, hc⟩ := sign_hd hc1 hc2 ((32 :: valS p.kind p.val) ++ r)
    rw [List.append_assoc, e3]
    rcases hc with rfl | rfl | rfl
    all_goals simp
  · rw [if_neg (by omega), if_neg (by omega), if_pos h, h, List.append_assoc]
    obtain ⟨e1, e2⟩ := nmT_app (a := bsL p.col) (r := [32, 105, 115, 32, 110, 117, 108, 108] ++ r) (nm_all hn) sp32
    unfold hk
    rw [e1, e2, if_neg (nm_not hn)]
    rfl
  · rw [if_neg (by omega), if_neg (by omega), if_neg (by omega), if_pos h, h, List.append_assoc]
    obtain ⟨e1, e2⟩ := nmT_app (a := bsL p.col) (r := [32, 108, 105, 107, 101, 32] ++ bsL (quoS p.pat) ++ r) (nm_all hn) sp32
    unfold hk
    rw [e1, e2, if_neg (nm_not hn)]
    rfl
  · have h : p.op = 5 := by omega
    rw [if_neg (by omega), if_neg (by omega), if_neg (by omega), if_neg (by omega), if_pos h, h]
    obtain ⟨e1, -⟩ := nmT_app (a := [110, 111, 116]) (r := 32 :: (Lib.join (p.kids.map fun k => parL 5 k.op (txP k)) (sepL 5) ++ r)) (by decide) sp32
    unfold hk
    rw [if_pos]
    exact e1
theorem itoa_inj {a b : Int} (h0 : -9223372036854775808 ≤ a) (h1 : a ≤ 9223372036854775807) (h2 : -9223372036854775808 ≤ b) (h3 : b ≤ 9223372036854775807) (h : Lib.itoa a = Lib.itoa b) : a = b := by
  have e1 := parse_itoa a h0 (by omega)
  have e2 := parse_itoa b h2 (by omega)
  rw [h, e2] at e1
  injection e1 with e1
  exact e1.symm
theorem quo_split {a b : ByteArray} {r s : List UInt8} (hr : ∀ d q, r = d :: q → d.toNat ≠ 39) (hs : ∀ d q, s = d :: q → d.toNat ≠ 39) (h : bsL (quoS a) ++ r = bsL (quoS b) ++ s) : a = b ∧ r = s := by
  have h' : escL (bsL a) ++ 39 :: r = escL (bsL b) ++ 39 :: s := by
    have e : ∀ (x : ByteArray) (y : List UInt8), bsL (quoS x) ++ y = 39 :: (escL (bsL x) ++ 39 :: y) := fun x y => by
      show (39 :: (escL (bsL x) ++ [39])) ++ y = _
      simp
    rw [e, e] at h
    injection h
  have e1 := quot_esc r hr (bsL a)
  have e2 := quot_esc s hs (bsL b)
  rw [h', e2] at e1
  injection e1 with e1
  injection e1 with e1 e3
  refine ⟨(ba_ext e1).symm, ?_⟩
  obtain ⟨-, e4⟩ := List.append_inj h' (by omega)
  injection e4
end
section
set_option maxRecDepth 100000
theorem ce_ext {a b : Ce} (h1 : a.nl = b.nl) (h2 : a.i = b.i) (h3 : a.s = b.s) : a = b := by
  cases a; cases b; simp_all
theorem Pr.same {p q : Pr} (h1 : p.op = q.op) (h2 : p.col = q.col) (h3 : p.cmp = q.cmp) (h4 : p.val = q.val) (h5 : p.kind = q.kind) (h6 : p.pat = q.pat) (h7 : p.kids = q.kids) : p = q := by
  obtain ⟨o, c, m, v, k, pt, ks⟩ := p
  obtain ⟨o', c', m', v', k', pt', ks'⟩ := q
  simp only [Pr.op, Pr.col, Pr.cmp, Pr.val, Pr.kind, Pr.pat, Pr.kids] at *
  subst h1 h2 h3 h4 h5 h6 h7
  rfl
def numC (c : UInt8) : Bool := digC c || decide (c.toNat = 45)
/-- Three kinds of values' texts, told by their first byte. -/
theorem val_three {ty : Int} {c : Ce} (h : MayC ty false c) :
    c.nl = false ∧ ((ty = 3 ∧ c.i = 0 ∧ valS ty c = bsL (quoS c.s)) ∨ (ty = 1 ∧ c.s = e0 ∧ valS ty c = Lib.itoa c.i) ∨ (ty = 2 ∧ c.s = e0 ∧ ((c.i = 0 ∧ valS ty c = [102, 97, 108, 115, 101]) ∨ (c.i = 1 ∧ valS ty c = [116, 114, 117, 101])))) := by
  obtain ⟨h1, h2, h3⟩ := h
  rcases h3 with ⟨_, h, _⟩ | ⟨hn, ht, hi, hs⟩ | ⟨hn, ht, hs, h3⟩
  · cases h
  · refine ⟨hn, .inl ⟨ht, hi, ?_⟩⟩
    unfold valS
    rw [hn, ht]
    rfl
  · refine ⟨hn, .inr ?_⟩
    have : ty = 1 ∨ ty = 2 := by omega
    rcases this with rfl | rfl
    · refine .inl ⟨rfl, hs, ?_⟩
      unfold valS
      rw [hn]
      rfl
    · refine .inr ⟨rfl, hs, ?_⟩
      have : c.i = 0 ∨ c.i = 1 := by omega
      rcases this with h | h
      · refine .inl ⟨h, ?_⟩
        unfold valS
        rw [hn, h]
        rfl
      · refine .inr ⟨h, ?_⟩
        unfold valS
        rw [hn, h]
        rfl
theorem itoa_num (n : Int) : ∃ c q, Lib.itoa n = c :: q ∧ numC c = true ∧ ∀ x ∈ Lib.itoa n, numC x = true := by
  obtain ⟨c, q, h1, -, h2, h3⟩ := itoa_shape n
  have hc : numC c = true := by
    unfold numC
    rcases h2 with h | h
    · rw [h]; rfl
    · rw [decide_eq_true h, Bool.or_true]
  refine ⟨c, q, h1, hc, fun x hx => ?_⟩
  rw [h1] at hx
  rcases List.mem_cons.1 hx with rfl | hx
  · exact hc
  · unfold numC
    rw [h3 x hx]
    rfl
theorem rU_39 {r : List UInt8} (h : rU r) : ∀ d q, r = d :: q → d.toNat ≠ 39 := by
  intro d q e
  rcases rU_hd h d q e with rfl | rfl <;> decide
theorem rU_num {r : List UInt8} (h : rU r) : ∀ d q, r = d :: q → numC d = false := by
  intro d q e
  rcases rU_hd h d q e with rfl | rfl <;> rfl
theorem quo_cons (x : ByteArray) (y : List UInt8) : bsL (quoS x) ++ y = 39 :: (escL (bsL x) ++ 39 :: y) := by
  show (39 :: (escL (bsL x) ++ [39])) ++ y = _
  simp
theorem val_inj {ty ty' : Int} {c c' : Ce} (h : MayC ty false c) (h' : MayC ty' false c') (g0 : -9223372036854775808 ≤ c.i) (g1 : c.i ≤ 9223372036854775807) (g2 : -9223372036854775808 ≤ c'.i) (g3 : c'.i ≤ 9223372036854775807)
    {r s : List UInt8} (hr : rU r) (hs : rU s) (e : valS ty c ++ r = valS ty' c' ++ s) : ty = ty' ∧ c = c' ∧ r = s := by
  obtain ⟨n1, k1⟩ := val_three h
  obtain ⟨n2, k2⟩ := val_three h'
  have hn : c.nl = c'.nl := by rw [n1, n2]
  obtain ⟨d, q, i1, i2, i3⟩ := itoa_num c.i
  obtain ⟨d', q', j1, j2, j3⟩ := itoa_num c'.i
  rcases k1 with ⟨t, x, y⟩ | ⟨t, x, y⟩ | ⟨t, x, ⟨z, y⟩ | ⟨z, y⟩⟩ <;> rcases k2 with ⟨t', x', y'⟩ | ⟨t', x', y'⟩ | ⟨t', x', ⟨z', y'⟩ | ⟨z', y'⟩⟩ <;> rw [y, y'] at e
  · obtain ⟨a, b⟩ := quo_split (rU_39 hr) (rU_39 hs) e
    exact ⟨by omega, ce_ext hn (by omega) a, b⟩
  · rw [quo_cons, j1] at e
    injection e with e _
    subst e
    cases j2
  · rw [quo_cons] at e
    injection e with e _
    cases e
  · rw [quo_cons] at e
    injection e with e _
    cases e
  · rw [quo_cons, i1] at e
    injection e with e _
    subst e
    cases i2
  · obtain ⟨a, b⟩ := run_split numC i3 j3 (rU_num hr) (rU_num hs) e
    exact ⟨by omega, ce_ext hn (itoa_inj g0 g1 g2 g3 a) (by rw [x, x']), b⟩
  · rw [i1] at e
    injection e with e _
    subst e
    cases i2
  · rw [i1] at e
    injection e with e _
    subst e
    cases i2
  · rw [quo_cons] at e
    injection e with e _
    cases e
  · rw [j1] at e
    injection e with e _
    subst e
    cases j2
  · exact ⟨by omega, ce_ext hn (by omega) (by rw [x, x']), List.append_cancel_left e⟩
  · injection e with e _
    cases e
  · rw [quo_cons] at e
    injection e with e _
    cases e
  · rw [j1] at e
    injection e with e _
    subst e
    cases j2
  · injection e with e _
    cases e
  · exact ⟨by omega, ce_ext hn (by omega) (by rw [x, x']), List.append_cancel_left e⟩
def sgnC (c : UInt8) : Bool := decide (c = 61) || decide (c = 60) || decide (c = 62)
theorem sign_inj {m m' : Int} (h1 : 1 ≤ m) (h2 : m ≤ 6) (h3 : 1 ≤ m') (h4 : m' ≤ 6) {r s : List UInt8} (e : signL m ++ 32 :: r = signL m' ++ 32 :: s) : m = m' ∧ r = s := by
  have al : ∀ m : Int, 1 ≤ m → m ≤ 6 → ∀ x ∈ signL m, sgnC x = true := fun m h1 h2 => by
    have : m = 1 ∨ m = 2 ∨ m = 3 ∨ m = 4 ∨ m = 5 ∨ m = 6 := by omega
    rcases this with rfl | rfl | rfl | rfl | rfl | rfl
    all_goals decide
  have hd : ∀ (r : List UInt8) d q, 32 :: r = d :: q → sgnC d = false := fun r d q e => by
    injection e with e _
    subst e
    rfl
  obtain ⟨a, b⟩ := run_split sgnC (al m h1 h2) (al m' h3 h4) (hd r) (hd s) e
  injection b with _ b
  refine ⟨?_, b⟩
  have : m = 1 ∨ m = 2 ∨ m = 3 ∨ m = 4 ∨ m = 5 ∨ m = 6 := by omega
  have : m' = 1 ∨ m' = 2 ∨ m' = 3 ∨ m' = 4 ∨ m' = 5 ∨ m' = 6 := by omega
  rcases ‹m = 1 ∨ _› with rfl | rfl | rfl | rfl | rfl | rfl <;> rcases ‹m' = 1 ∨ _› with rfl | rfl | rfl | rfl | rfl | rfl
  all_goals first | rfl | (exact absurd a (by decide))
end
section
set_option maxRecDepth 100000
theorem join_two (x y : List UInt8) (r : List (List UInt8)) (sep : List UInt8) : Lib.join (x :: y :: r) sep = x ++ (sep ++ Lib.join (y :: r) sep) := by
  rw [Lib.join_cons, Lib.join_cons]
  simp [Lib.joinTail]
/-- Rows of texts that are told apart one by one are told apart. -/
theorem join_inj (sep : List UInt8) (T : Pr → List UInt8) (G : Pr → Prop) (R0 R1 : List UInt8 → Prop) (h01 : ∀ r, R0 r → R1 r) (hsep : ∀ t, R1 (sep ++ t)) (hno : ∀ r t, R0 r → r ≠ sep ++ t) :
    ∀ (l m : List Pr) (r s : List UInt8), (∀ k ∈ l, ∀ j r s, G j → R1 r → R1 s → T k ++ r = T j ++ s → k = j ∧ r = s) → (∀ j ∈ m, G j) → l ≠ [] → m ≠ [] → R0 r → R0 s → Lib.join (l.map T) sep ++ r = Lib.join (m.map T) sep ++ s → l = m ∧ r = s
  | [], _, _, _, _, _, h, _, _, _, _ => absurd rfl h
  | _ :: _, [], _, _, _, _, _, h, _, _, _ => absurd rfl h
  | [k], [j], r, s, hl, hm, _, _, hr, hs, e => by
    rw [List.map_cons, List.map_nil, List.map_cons, List.map_nil, join1, join1] at e
    obtain ⟨rfl, h⟩ := hl k (by simp) j r s (hm j (by simp)) (h01 r hr) (h01 s hs) e
    exact ⟨rfl, h⟩
  | [k], j :: j' :: m, r, s, hl, hm, _, _, hr, hs, e => by
    simp only [List.map_cons, List.map_nil, join1, join_two, List.append_assoc] at e
    obtain ⟨-, h⟩ := hl k (by simp) j r _ (hm j (by simp)) (h01 r hr) (hsep _) e
    exact absurd h (hno r _ hr)
  | k :: k' :: l, [j], r, s, hl, hm, _, _, hr, hs, e => by
    simp only [List.map_cons, List.map_nil, join1, join_two, List.append_assoc] at e
    obtain ⟨-, h⟩ := hl k (by simp) j _ s (hm j (by simp)) (hsep _) (h01 s hs) e
    exact absurd h.symm (hno s _ hs)
  | k :: k' :: l, j :: j' :: m, r, s, hl, hm, _, _, hr, hs, e => by
    simp only [List.map_cons, join_two, List.append_assoc] at e
    obtain ⟨rfl, h⟩ := hl k (by simp) j _ _ (hm j (by simp)) (hsep _) (hsep _) e
    have h := List.append_cancel_left h
    rw [← List.map_cons, ← List.map_cons] at h
    obtain ⟨h1, h2⟩ := join_inj sep T G R0 R1 h01 hsep hno (k' :: l) (j' :: m) r s (fun x hx => hl x (List.mem_cons_of_mem _ hx)) (fun x hx => hm x (List.mem_cons_of_mem _ hx)) (by simp) (by simp) hr hs h
    exact ⟨by rw [h1], h2⟩
/-- One that may be, within the machine's numbers. -/
def Gd (p : Pr) : Prop := oneP p = true ∧ Rg p
theorem Gd.hd {p : Pr} (h : Gd p) : HdP p := oneP_hd h.1
theorem Gd.kid {p : Pr} (h : Gd p) : ∀ x ∈ p.kids, Gd x := fun x hx => ⟨oneP_kid h.1 x hx, h.2.kid x hx⟩
theorem Gd.nd {p : Pr} (h : Gd p) (h6 : 6 ≤ p.op) : ∀ x ∈ p.kids, x.op ≠ p.op := by
  have h1 := h.1
  rw [oneP_eq, Bool.and_eq_true] at h1
  have h2 := h1.1
  unfold ndP at h2
  rw [Bool.and_eq_true, decide_eq_true h6, Bool.true_and, Bool.not_eq_true', List.any_eq_false] at h2
  exact fun x hx => by simpa using h2.2 x hx
def Uq (p : Pr) : Prop := ∀ (q : Pr) (r s : List UInt8), p.op ≤ 5 → q.op ≤ 5 → Gd p → Gd q → rU r → rU s → txP p ++ r = txP q ++ s → p = q ∧ r = s
def Aq (p : Pr) : Prop := ∀ (q : Pr) (r s : List UInt8), p.op ≤ 6 → q.op ≤ 6 → Gd p → Gd q → rA r → rA s → txP p ++ r = txP q ++ s → p = q ∧ r = s
def Oq (p : Pr) : Prop := ∀ (q : Pr) (r s : List UInt8), Gd p → Gd q → rO r → rO s → txP p ++ r = txP q ++ s → p = q ∧ r = s
theorem op_le {p : Pr} (h : HdP p) : 1 ≤ p.op ∧ p.op ≤ 7 := by
  rcases h with ⟨h, -⟩ | ⟨h, -⟩ | ⟨h, -⟩ | ⟨h, -⟩ | ⟨h, h', -⟩ <;> omega
theorem un_hd {p : Pr} (h : HdP p) (h5 : p.op ≤ 5) : ∃ c t, txP p = c :: t ∧ c ≠ 40 := by
  have nm : ∀ {s : ByteArray} (X : List UInt8), nameB s = true → ∃ c t, bsL s ++ X = c :: t ∧ c ≠ 40 := fun {s} X hn => by
    have h1 := nm_all hn
    have h2 := ((nameB_iff s).1 hn).2.2.1
    rw [← len_bsL] at h2
    cases hb : bsL s with
    | nil => rw [hb] at h2; simp at h2
    | cons c t =>
      refine ⟨c, t ++ X, rfl, fun e => ?_⟩
      have := h1 c (by rw [hb]; simp)
      rw [e] at this
      cases this
  rw [txP_eq]
  rcases h with ⟨h, -⟩ | ⟨h, hn, -⟩ | ⟨h, hn, -⟩ | ⟨h, hn, -⟩ | ⟨h, -⟩
  · rw [if_pos h]; exact ⟨_, _, rfl, by decide⟩
  · rw [if_neg (by omega), if_pos h]; exact nm _ hn
  · rw [if_neg (by omega), if_neg (by omega), if_pos h]; exact nm _ hn
  · rw [if_neg (by omega), if_neg (by omega), if_neg (by omega), if_pos h]; exact nm _ hn
  · rw [if_neg (by omega), if_neg (by omega), if_neg (by omega), if_neg (by omega), if_pos (by omega)]
    exact ⟨_, _, rfl, by decide⟩
/-- Is a kid's text in brackets? -/
abbrev brk (op : Int) (k : Pr) : Prop := (op = 5 ∧ 6 ≤ k.op) ∨ (op = 6 ∧ k.op = 7)
theorem kid_inj {op : Int} {k j : Pr} (hU : Uq k) (hO : brk op k → Oq k) (bk : brk op k ∨ k.op ≤ 5) (bj : brk op j ∨ j.op ≤ 5) (gk : Gd k) (gj : Gd j) {r s : List UInt8} (hr : rU r) (hs : rU s)
    (e : parL op k.op (txP k) ++ r = parL op j.op (txP j) ++ s) : k = j ∧ r = s := by
  unfold parL at e
  by_cases b1 : brk op k
  · rw [if_pos b1] at e
    by_cases b2 : brk op j
    · rw [if_pos b2] at e
      simp only [List.cons_append, List.append_assoc, List.nil_append] at e
      injection e with _ e
      obtain ⟨h1, h2⟩ := hO b1 j _ _ gk gj (.inr ⟨r, rfl⟩) (.inr ⟨s, rfl⟩) e
      injection h2 with _ h2
      exact ⟨h1, h2⟩
    · rw [if_neg b2] at e
      obtain ⟨c, t, h1, h2⟩ := un_hd gj.hd (bj.resolve_left b2)
      rw [h1] at e
      injection e with e _
      exact absurd e.symm h2
  · rw [if_neg b1] at e
    by_cases b2 : brk op j
    · rw [if_pos b2] at e
      obtain ⟨c, t, h1, h2⟩ := un_hd gk.hd (bk.resolve_left b1)
      rw [h1] at e
      injection e with e _
      exact absurd e h2
    · rw [if_neg b2] at e
      exact hU j r s (bk.resolve_left b1) (bj.resolve_left b2) gk gj hr hs e
end
section
set_option maxRecDepth 100000
theorem v0_eq {p q : Pr} (h : V0 p) (h' : V0 q) : p.val = q.val :=
  ce_ext (by rw [h.1, h'.1]) (by rw [h.2.1, h'.2.1]) (by rw [h.2.2, h'.2.2])
theorem hd_deep {p : Pr} (h : HdP p) (h5 : 5 ≤ p.op) : p.col = e0 ∧ p.cmp = 0 ∧ V0 p ∧ p.kind = 0 ∧ p.pat = e0 ∧ (p.op = 5 → p.kids.length = 1) ∧ (6 ≤ p.op → 2 ≤ p.kids.length) := by
  rcases h with ⟨h, -⟩ | ⟨h, -⟩ | ⟨h, -⟩ | ⟨h, -⟩ | ⟨-, -, h⟩
  · omega
  · omega
  · omega
  · omega
  · exact h
theorem deep_eq {p q : Pr} (h : HdP p) (h' : HdP q) (h5 : 5 ≤ p.op) (ho : p.op = q.op) (hk : p.kids = q.kids) : p = q := by
  obtain ⟨a1, a2, a3, a4, a5, -⟩ := hd_deep h h5
  obtain ⟨b1, b2, b3, b4, b5, -⟩ := hd_deep h' (by omega)
  exact Pr.same ho (by rw [a1, b1]) (by rw [a2, b2]) (v0_eq a3 b3) (by rw [a4, b4]) (by rw [a5, b5]) hk
theorem len0 {p q : Pr} (h : p.kids.length = 0) (h' : q.kids.length = 0) : p.kids = q.kids := by
  rw [List.eq_nil_of_length_eq_zero h, List.eq_nil_of_length_eq_zero h']
theorem uq_of (p : Pr) (ihU : ∀ x ∈ p.kids, Uq x) (ihO : ∀ x ∈ p.kids, Oq x) : Uq p := by
  intro q r s hp5 hq5 gp gq hr hs e
  have o1 := hk_op p gp.hd hp5 r hr
  have o2 := hk_op q gq.hd hq5 s hs
  have ho : p.op = q.op := by rw [← o1, ← o2, e]
  have hp := gp.hd
  have hq := gq.hd
  rw [txP_eq p, txP_eq q] at e
  rcases hp with ⟨h, a1, a2, a3, a4, a5, a6⟩ | ⟨h, a1, a2, a3, a4, a5, a6⟩ | ⟨h, a1, a2, a3, a4, a5, a6⟩ | ⟨h, a1, a2, a3, a4, a5, a6⟩ | ⟨h, -, a1, a2, a3, a4, a5, a6, -⟩
  · rcases hq with ⟨h', b1, b2, b3, b4, b5, b6⟩ | ⟨h', -⟩ | ⟨h', -⟩ | ⟨h', -⟩ | ⟨h', -⟩
    · rw [if_pos h, if_pos h'] at e
      exact ⟨Pr.same ho (by rw [a1, b1]) (by rw [a2, b2]) (v0_eq a3 b3) (by rw [a4, b4]) (by rw [a5, b5]) (len0 a6 b6), List.append_cancel_left e⟩
    all_goals omega
  · rcases hq with ⟨h', -⟩ | ⟨h', b1, b2, b3, b4, b5, b6⟩ | ⟨h', -⟩ | ⟨h', -⟩ | ⟨h', -⟩
    · omega
    · rw [if_neg (by omega), if_pos h, if_neg (by omega), if_pos h'] at e
      simp only [List.append_assoc, List.cons_append] at e
      obtain ⟨c, e⟩ := run_split namC (nm_all a1) (nm_all b1) sp32 sp32 e
      injection e with _ e
      obtain ⟨c2, e⟩ := sign_inj a2 a3 b2 b3 e
      obtain ⟨c3, c4, e⟩ := val_inj a4 b4 gp.2.lo gp.2.hi gq.2.lo gq.2.hi hr hs e
      exact ⟨Pr.same ho (ba_ext c) c2 c4 c3 (by rw [a5, b5]) (len0 a6 b6), e⟩
    all_goals omega
  · rcases hq with ⟨h', -⟩ | ⟨h', -⟩ | ⟨h', b1, b2, b3, b4, b5, b6⟩ | ⟨h', -⟩ | ⟨h', -⟩
    · omega
    · omega
    · rw [if_neg (by omega), if_neg (by omega), if_pos h, if_neg (by omega), if_neg (by omega), if_pos h'] at e
      simp only [List.append_assoc, List.cons_append, List.nil_append] at e
      obtain ⟨c, e⟩ := run_split namC (nm_all a1) (nm_all b1) sp32 sp32 e
      simp only [List.cons.injEq, true_and] at e
      exact ⟨Pr.same ho (ba_ext c) (by rw [a2, b2]) (v0_eq a3 b3) (by rw [a4, b4]) (by rw [a5, b5]) (len0 a6 b6), e⟩
    all_goals omega
  · rcases hq with ⟨h', -⟩ | ⟨h', -⟩ | ⟨h', -⟩ | ⟨h', b1, b2, b3, b4, b5, b6⟩ | ⟨h', -⟩
    · omega
    · omega
    · omega
    · rw [if_neg (by omega), if_neg (by omega), if_neg (by omega), if_pos h, if_neg (by omega), if_neg (by omega), if_neg (by omega), if_pos h'] at e
      simp only [List.append_assoc, List.cons_append, List.nil_append] at e
      obtain ⟨c, e⟩ := run_split namC (nm_all a1) (nm_all b1) sp32 sp32 e
      simp only [List.cons.injEq, true_and] at e
      obtain ⟨c2, e⟩ := quo_split (rU_39 hr) (rU_39 hs) e
      exact ⟨Pr.same ho (ba_ext c) (by rw [a2, b2]) (v0_eq a3 b3) (by rw [a4, b4]) c2 (len0 a6 b6), e⟩
    · omega
  · have h : p.op = 5 := by omega
    have h' : q.op = 5 := by omega
    have b6 := (hd_deep gq.hd (by omega)).2.2.2.2.2.1 h'
    have a6 := a6 h
    rw [if_neg (by omega), if_neg (by omega), if_neg (by omega), if_neg (by omega), if_pos h, if_neg (by omega), if_neg (by omega), if_neg (by omega), if_neg (by omega), if_pos h', h, h'] at e
    have kp := gp.kid
    have kq := gq.kid
    have hkids : p.kids = q.kids ∧ r = s := by
      revert ihU ihO a6 b6 kp kq e
      match p.kids, q.kids with
      | [], _ => intro _ _ _ _ a6; simp at a6
      | _ :: _ :: _, _ => intro _ _ _ _ a6; simp at a6
      | [_], [] => intro _ _ _ b6; simp at b6
      | [_], _ :: _ :: _ => intro _ _ _ b6; simp at b6
      | [k], [j] =>
        intro ihU ihO e _ _ kp kq
        simp only [List.map_cons, List.map_nil, join1, List.cons_append, List.nil_append, List.cons.injEq, true_and] at e
        have bb : ∀ x : Pr, brk 5 x ∨ x.op ≤ 5 := fun x => by
          by_cases hx : 6 ≤ x.op
          · exact .inl (.inl ⟨rfl, hx⟩)
          · exact .inr (by omega)
        obtain ⟨h1, h2⟩ := kid_inj (ihU k (by simp)) (fun _ => ihO k (by simp)) (bb k) (bb j) (kp k (by simp)) (kq j (by simp)) hr hs e
        exact ⟨by rw [h1], h2⟩
    exact ⟨deep_eq gp.hd gq.hd (by omega) ho hkids.1, hkids.2⟩
end
section
set_option maxRecDepth 100000
theorem sep6 : sepL 6 = [32, 97, 110, 100, 32] := rfl
theorem sep7 : sepL 7 = [32, 111, 114, 32] := rfl
def kA (p : Pr) : List Pr := if p.op = 6 then p.kids else [p]
def kO (p : Pr) : List Pr := if p.op = 7 then p.kids else [p]
theorem tx_kA {p : Pr} (h : p.op ≤ 6) : txP p = Lib.join ((kA p).map fun k => parL 6 k.op (txP k)) (sepL 6) := by
  unfold kA
  by_cases h6 : p.op = 6
  · rw [if_pos h6, txP_eq, if_neg (by omega), if_neg (by omega), if_neg (by omega), if_neg (by omega), if_neg (by omega), h6]
    rfl
  · rw [if_neg h6, List.map_cons, List.map_nil, join1]
    unfold parL
    rw [if_neg (by omega)]
theorem tx_kO {p : Pr} : txP p = Lib.join ((kO p).map txP) (sepL 7) := by
  unfold kO
  by_cases h7 : p.op = 7
  · rw [if_pos h7, txP_eq, if_neg (by omega), if_neg (by omega), if_neg (by omega), if_neg (by omega), if_neg (by omega), h7]
    have : (fun k : Pr => parL 7 k.op (txP k)) = txP := by
      funext k
      unfold parL
      rw [if_neg (by omega)]
    rw [this]
    rfl
  · rw [if_neg h7, List.map_cons, List.map_nil, join1]
theorem aq_of (p : Pr) (hU : p.op ≤ 5 → Uq p) (ihU : ∀ x ∈ p.kids, Uq x) (ihO : ∀ x ∈ p.kids, Oq x) : Aq p := by
  intro q r s hp hq gp gq hr hs e
  rw [tx_kA hp, tx_kA hq] at e
  have ne : ∀ {x : Pr}, Gd x → x.op ≤ 6 → kA x ≠ [] := fun {x} g h => by
    unfold kA
    split
    · intro e
      have := (hd_deep g.hd (by omega)).2.2.2.2.2.2 (by omega)
      rw [e] at this
      simp at this
    · simp
  have mem : ∀ {x : Pr}, Gd x → x.op ≤ 6 → ∀ k ∈ kA x, Gd k ∧ (brk 6 k ∨ k.op ≤ 5) := fun {x} g h k hk => by
    unfold kA at hk
    split at hk
    · rename_i h6
      have gk := g.kid k hk
      have h1 := g.nd (by omega) k hk
      have h2 := op_le gk.hd
      refine ⟨gk, ?_⟩
      by_cases h7 : k.op = 7
      · exact .inl (.inr ⟨rfl, h7⟩)
      · exact .inr (by omega)
    · rename_i h6
      obtain rfl : k = x := by simpa using hk
      exact ⟨g, .inr (by omega)⟩
  have un : ∀ k ∈ kA p, Uq k ∧ (brk 6 k → Oq k) := fun k hk => by
    unfold kA at hk
    split at hk
    · exact ⟨ihU k hk, fun _ => ihO k hk⟩
    · rename_i h6
      obtain rfl : k = p := by simpa using hk
      refine ⟨hU (by omega), fun h => ?_⟩
      rcases h with ⟨h, -⟩ | ⟨-, h⟩ <;> omega
  obtain ⟨h1, h2⟩ := join_inj (sepL 6) (fun k => parL 6 k.op (txP k)) (fun k => Gd k ∧ (brk 6 k ∨ k.op ≤ 5)) rA rU (fun _ h => .inl h) (fun t => .inr ⟨t, rfl⟩)
    (fun r t h e => by
      subst e
      rcases h with (h | ⟨t', h⟩) | ⟨t', h⟩
      · cases h
      · rw [sep6] at h; simp at h
      · rw [sep6] at h; simp at h)
    (kA p) (kA q) r s (fun k hk j r s gj hr hs e => kid_inj (un k hk).1 (un k hk).2 (mem gp hp k hk).2 gj.2 (mem gp hp k hk).1 gj.1 hr hs e) (mem gq hq) (ne gp hp) (ne gq hq) hr hs e
  refine ⟨?_, h2⟩
  unfold kA at h1
  by_cases hp6 : p.op = 6
  · rw [if_pos hp6] at h1
    by_cases hq6 : q.op = 6
    · rw [if_pos hq6] at h1
      exact deep_eq gp.hd gq.hd (by omega) (by omega) h1
    · rw [if_neg hq6] at h1
      have := (hd_deep gp.hd (by omega)).2.2.2.2.2.2 (by omega)
      rw [h1] at this
      simp at this
  · rw [if_neg hp6] at h1
    by_cases hq6 : q.op = 6
    · rw [if_pos hq6] at h1
      have := (hd_deep gq.hd (by omega)).2.2.2.2.2.2 (by omega)
      rw [← h1] at this
      simp at this
    · rw [if_neg hq6] at h1
      simpa using h1
theorem oq_of (p : Pr) (hA : p.op ≤ 6 → Aq p) (ihA : ∀ x ∈ p.kids, Aq x) : Oq p := by
  intro q r s gp gq hr hs e
  rw [tx_kO (p := p), tx_kO (p := q)] at e
  have ne : ∀ {x : Pr}, Gd x → kO x ≠ [] := fun {x} g => by
    unfold kO
    split
    · intro e
      have := (hd_deep g.hd (by omega)).2.2.2.2.2.2 (by omega)
      rw [e] at this
      simp at this
    · simp
  have mem : ∀ {x : Pr}, Gd x → ∀ k ∈ kO x, Gd k ∧ k.op ≤ 6 := fun {x} g k hk => by
    unfold kO at hk
    split at hk
    · have gk := g.kid k hk
      have h1 := g.nd (by omega) k hk
      have h2 := op_le gk.hd
      exact ⟨gk, by omega⟩
    · obtain rfl : k = x := by simpa using hk
      have h2 := op_le g.hd
      exact ⟨g, by omega⟩
  have un : ∀ k ∈ kO p, Aq k := fun k hk => by
    have h6 := (mem gp k hk).2
    unfold kO at hk
    split at hk
    · exact ihA k hk
    · obtain rfl : k = p := by simpa using hk
      exact hA h6
  obtain ⟨h1, h2⟩ := join_inj (sepL 7) txP (fun k => Gd k ∧ k.op ≤ 6) rO rA (fun _ h => .inl h) (fun t => .inr ⟨t, rfl⟩)
    (fun r t h e => by
      subst e
      rcases h with h | ⟨t', h⟩
      · cases h
      · rw [sep7] at h; simp at h)
    (kO p) (kO q) r s (fun k hk j r s gj hr hs e => un k hk j r s (mem gp k hk).2 gj.2 (mem gp k hk).1 gj.1 hr hs e) (mem gq) (ne gp) (ne gq) hr hs e
  refine ⟨?_, h2⟩
  unfold kO at h1
  by_cases hp6 : p.op = 7
  · rw [if_pos hp6] at h1
    by_cases hq6 : q.op = 7
    · rw [if_pos hq6] at h1
      exact deep_eq gp.hd gq.hd (by omega) (by omega) h1
    · rw [if_neg hq6] at h1
      have := (hd_deep gp.hd (by omega)).2.2.2.2.2.2 (by omega)
      rw [h1] at this
      simp at this
  · rw [if_neg hp6] at h1
    by_cases hq6 : q.op = 7
    · rw [if_pos hq6] at h1
      have := (hd_deep gq.hd (by omega)).2.2.2.2.2.2 (by omega)
      rw [← h1] at this
      simp at this
    · rw [if_neg hq6] at h1
      simpa using h1
theorem all_q : ∀ p : Pr, Uq p ∧ Aq p ∧ Oq p :=
  Pr.by_kids fun p ih => by
    have u := uq_of p (fun x hx => (ih x hx).1) (fun x hx => (ih x hx).2.2)
    have a := aq_of p (fun _ => u) (fun x hx => (ih x hx).1) (fun x hx => (ih x hx).2.2)
    exact ⟨u, a, oq_of p (fun _ => a) (fun x hx => (ih x hx).2.1)⟩
/-- Unlike predicates have unlike texts. -/
theorem txP_inj {p q : Pr} (h1 : oneP p = true) (h2 : Rg p) (h3 : oneP q = true) (h4 : Rg q) (h : txP p = txP q) : p = q :=
  ((all_q p).2.2 q [] [] ⟨h1, h2⟩ ⟨h3, h4⟩ (.inl rfl) (.inl rfl) (by rw [h])).1
end
section
set_option maxRecDepth 100000
/-! The same predicates. -/
noncomputable def eqP (p q : Pr) : Bool := @decide (p = q) (Classical.propDecidable _)
noncomputable def eqPs (l m : List Pr) : Bool := @decide (l = m) (Classical.propDecidable _)
theorem eqP_iff {p q : Pr} : eqP p q = true ↔ p = q := by unfold eqP; simp
theorem eqPs_iff {l m : List Pr} : eqPs l m = true ↔ l = m := by unfold eqPs; simp
theorem eqPs_ne {l m : List Pr} (h : l ≠ m) : eqPs l m = false := by
  rw [← Bool.not_eq_true, eqPs_iff]; exact h
theorem eqPs_self (l : List Pr) : eqPs l l = true := eqPs_iff.2 rfl
def flE (p q : Pr) : Bool := flatB p.op p.col p.cmp p.val.nl p.val.i p.val.s p.kind p.pat q.op q.col q.cmp q.val.nl q.val.i q.val.s q.kind q.pat
theorem eqP_is (p q : Pr) : eqP p q = (flE p q && eqPs p.kids q.kids) := by
  rw [Bool.eq_iff_iff, Bool.and_eq_true, eqP_iff, eqPs_iff]
  unfold flE flatB
  rw [decide_eq_true_eq]
  constructor
  · rintro rfl
    exact ⟨⟨rfl, rfl, rfl, ⟨rfl, rfl, rfl⟩, rfl, rfl⟩, rfl⟩
  · rintro ⟨⟨h1, h2, h3, ⟨h4, h5, h6⟩, h7, h8⟩, h9⟩
    exact Pr.same h1 h2 h3 (ce_ext h4 h5 h6) h7 h8 h9
theorem eqPs_at {l m : List Pr} (hl : l.length = m.length) (h : ∀ (j : Nat) (h1 : j < l.length) (h2 : j < m.length), l[j] = m[j]) : l = m := List.ext_getElem hl h
theorem pEqF (l m : List Pr) (hl : l.length ≤ 1000) (hm : m.length ≤ 1000) (ih : ∀ k ∈ l, ∀ q ∈ m, PC Tryd.prog 13 [aPr k, aPr q] [] (fun r bx => r = A.bool (eqP k q) ∧ bx = [])) :
    PC Tryd.prog 35 [xRow l.length 9 (elemsOf (l.map cPr)), xRow m.length 9 (elemsOf (m.map cPr)), .one (.fn 13 [])] [] (fun r bx => r = A.bool (eqPs l m) ∧ bx = []) := by
  refine enter (rs := [.tmp 6]) mx Tryd.func35 Tryd.ntmps35 fun Q0 hQ0 => ?_
  refine sq fun _ _ => ?_
  refine rg (sg ?_)
  refine nx ?_
  refine sq fun _ _ => ?_
  refine sq fun _ _ => ?_
  refine rg (sg ?_)
  refine nx ?_
  refine cb (fun h0 => ?_) (fun h0 => ?_)
  · refine sq fun _ _ => ?_
    refine rg (sg ?_)
    refine nx ?_
    refine rt (sg ?_)
    refine f1 (g := sg ?_)
    exact ax [] ⟨congrArg A.bool (eqPs_ne fun h => h0 (by rw [h])).symm, rfl⟩
  · refine sk (sg ?_)
    refine nx ?_
    refine sq fun _ _ => ?_
    refine sq fun _ _ => ?_
    refine rg (sg ?_)
    refine nx ?_
    refine bl ?_
    have hlm : l.length = m.length := by omega
    refine lp [1, 2, 15, 16, 17] [] (fun k σ => ∃ i : Nat, k = l.length - i ∧ i ≤ l.length ∧ (∀ (j : Nat) (h1 : j < l.length) (h2 : j < m.length), j < i → l[j] = m[j]) ∧ σ = ⟨32, 0, [(1, xRow m.length 9 (elemsOf (List.map cPr m))), (2, A.one (L.fn 13 [])), (15, xRow l.length 9 (elemsOf (List.map cPr l))), (16, A.int .i64 l.length), (17, A.int .i64 i)], []⟩) l.length ?_ ?_
    · exact ⟨0, by omega, by omega, fun j h h2 h3 => absurd h3 (Nat.not_lt_zero _), keq⟩
    · rintro k σ' ⟨i, hk, hi, hw, rfl⟩ Q1 hQ1
      refine sq fun _ _ => ?_
      refine rg (sg ?_)
      refine nx ?_
      refine sq fun _ _ => ?_
      refine cb (fun h => ?_) (fun h => ?_)
      · have hin : i < l.length := by omega
        have him : i < m.length := by omega
        have hwi : IntKind.i64.wrap ((i : Int) + 1) = ((i + 1 : Nat) : Int) := wrap_succ (by omega)
        have he := el_at (f := cPr) hin
        have he2 := el_at (f := cPr) him
        refine sk (sg ?_)
        refine nx ?_
        refine sq fun _ _ => ?_
        refine bl ?_
        refine sq fun _ _ => ?_
        refine rg (sg ?_)
        refine and_assoc.2 ?_
        refine And.intro (by first | assumption | omega | rfl | trivial) ?_
        refine And.intro (by first | assumption | omega | rfl | trivial) ?_
        simp (disch := omega) only [el_at]
        refine sg ?_
        refine nx ?_
        refine sq fun _ _ => ?_
        refine rg (sg ?_)
        refine and_assoc.2 ?_
        refine And.intro (by first | assumption | omega | rfl | trivial) ?_
        refine And.intro (by first | assumption | omega | rfl | trivial) ?_
        simp (disch := omega) only [el_at]
        refine sg ?_
        refine nx ?_
        refine sq fun _ _ => ?_
        refine rg (sg ?_)
        refine cl [] (sg ?_)
        refine (ih l[i] (List.getElem_mem hin) m[i] (List.getElem_mem him)).mono ?_
        rintro r bx ⟨rfl, rfl⟩
        refine sg ?_
        refine nx ?_
        refine cb (fun h2 => ?_) (fun h2 => ?_)
        · have hne : l ≠ m := fun e => by
            have h3 : l[i] = m[i] := by subst e; rfl
            rw [eqP_iff.2 h3] at h2
            cases h2
          refine sq fun _ _ => ?_
          refine rg (sg ?_)
          refine nx ?_
          refine rt (sg ?_)
          refine lr (g := sg ?_)
          refine f1 (g := sg ?_)
          exact ax [] ⟨congrArg A.bool (eqPs_ne hne).symm, rfl⟩
        · have h3 : l[i] = m[i] := by
            rw [Bool.not_eq_false] at h2
            exact eqP_iff.1 h2
          have hw2 : ∀ (j : Nat) (h1 : j < l.length) (h2 : j < m.length), j < i + 1 → l[j] = m[j] := by
            intro j h1 h2 h4
            by_cases hji : j = i
            · subst hji
              exact h3
            · exact hw j h1 h2 (by omega)
          refine sk (sg ?_)
          refine nx ?_
          refine rg (sg ?_)
          simp (disch := omega) only [wrap_succ]
          refine ln (l.length - (i + 1)) [] ?_ ?_
          · omega
          exact ⟨i + 1, by omega, by omega, hw2, keq⟩
      · have hall : l = m := eqPs_at hlm fun j h1 h2 => hw j h1 h2 (by omega)
        refine xt (sg ?_)
        refine lx (g := sg ?_)
        refine nx ?_
        refine sq fun _ _ => ?_
        refine rg (sg ?_)
        refine nx ?_
        refine rt ?_
        refine f1 (g := sg ?_)
        exact ax [] ⟨congrArg A.bool (eqPs_iff.2 hall).symm, rfl⟩
end
section
set_option maxRecDepth 100000
theorem c13 : ∀ (p q : Pr), Sm p → Sm q → PC Tryd.prog 13 [aPr p, aPr q] [] (fun r bx => r = A.bool (eqP p q) ∧ bx = []) := by
  refine Pr.by_kids fun p ih q hp hq => ?_
  have hl := hp.len
  have hm := hq.len
  refine enter (rs := [.tmp 4]) mx Tryd.func13 Tryd.ntmps13 fun Q0 hQ0 => ?_
  refine sq fun _ _ => ?_
  refine rg (sg ?_)
  refine nx ?_
  refine sq fun _ _ => ?_
  refine rgs 3 (sgt ?_)
  refine cl [] (sg ?_)
  refine (c34 _ _ _ _ _ _ _ _ _ _ _ _ _ _ _ _ _ _).mono ?_
  rintro r bx ⟨rfl, rfl⟩
  refine sg ?_
  refine hr 6 (sgt ?_)
  simp only [undef]
  refine ⟨fun hf => ⟨hf, ?_⟩, fun hf => ?_⟩
  · refine cl [] (sg ?_)
    refine (pEqF p.kids q.kids (by omega) (by omega) fun k hk j hj => ih k hk j (hp.kid k hk) (hq.kid j hj)).mono ?_
    rintro r bx ⟨rfl, rfl⟩
    refine sg ?_
    refine hrl (sg ?_)
    refine nx ?_
    refine rt ?_
    refine f1 (g := sg ?_)
    exact ax [] ⟨congrArg A.bool (eqP_is p q).symm, rfl⟩
  · refine hrl ?_
    simp only [go_sem, Nat.reduceAdd, Nat.reduceSub, Nat.reduceMul, Nat.reduceLT, Nat.reduceLeDiff, Nat.reduceEqDiff, reduceIte, reduceCtorEq, if_true, if_false, Int.reduceEq, Int.reduceLT, Int.reduceLE, Int.reduceAdd, Int.reduceSub, Int.reduceMul, Int.reduceNeg, Int.reduceToNat, decide_true, decide_false, Nat.reduceBEq, hf]
    refine nx ?_
    refine rt ?_
    refine f1 (g := sg ?_)
    have hf' : flE p q = false := by simpa [flE] using hf
    exact ax [] ⟨congrArg A.bool (by rw [eqP_is, hf', Bool.false_and]), rfl⟩
theorem c14 : ∀ (p q : Pr), Sm p → Sm q → PC Tryd.prog 14 [aPr p, aPr q] [] (fun r bx => r = A.bool (eqP p q) ∧ bx = []) := by
  refine Pr.by_kids fun p ih q hp hq => ?_
  have hl := hp.len
  have hm := hq.len
  refine enter (rs := [.tmp 4]) mx Tryd.func14 Tryd.ntmps14 fun Q0 hQ0 => ?_
  refine sq fun _ _ => ?_
  refine rg (sg ?_)
  refine nx ?_
  refine sq fun _ _ => ?_
  refine sq fun _ _ => ?_
  refine rg (sg ?_)
  refine cl [] (sg ?_)
  refine (c36 _ _ _ _ _ _ _ _ _ _ _ _ _ _ _ _ _ _).mono ?_
  rintro r bx ⟨rfl, rfl⟩
  refine sg ?_
  refine nx ?_
  refine cb (fun h0 => ?_) (fun h0 => ?_)
  · have hne : eqP p q = false := by
      rw [← Bool.not_eq_true, eqP_iff]
      rintro rfl
      simp [flatB] at h0
    refine sq fun _ _ => ?_
    refine rg (sg ?_)
    refine nx ?_
    refine rt (sg ?_)
    refine f1 (g := sg ?_)
    exact ax [] ⟨congrArg A.bool hne.symm, rfl⟩
  · have h1 : flE p q = true ∧ p.kids.length = q.kids.length := by
      simp at h0
      exact ⟨h0.1, by omega⟩
    have hlm := h1.2
    refine sk (sg ?_)
    refine nx ?_
    refine sq fun _ _ => ?_
    refine sq fun _ _ => ?_
    refine rg (sg ?_)
    refine nx ?_
    refine bl ?_
    refine lp [2, 3, 5] [0, 1] (fun k σ => ∃ i : Nat, k = p.kids.length - i ∧ i ≤ p.kids.length ∧ (∀ (j : Nat) (h1 : j < p.kids.length) (h2 : j < q.kids.length), j < i → p.kids[j] = q.kids[j]) ∧ σ = ⟨38, 0, [(2, xPtr 0 0), (3, xPtr 1 0), (5, A.int .i64 i)], [B.var [xI p.op, xS p.col, xI p.cmp, xB p.val.nl, xI p.val.i, xS p.val.s, xI p.kind, xS p.pat, L.c (C.sl p.kids.length 9 (elemsOf (List.map cPr p.kids)))] 35, B.var [xI q.op, xS q.col, xI q.cmp, xB q.val.nl, xI q.val.i, xS q.val.s, xI q.kind, xS q.pat, L.c (C.sl q.kids.length 9 (elemsOf (List.map cPr q.kids)))] 35]⟩) p.kids.length ?_ ?_
    · exact ⟨0, by omega, by omega, fun j h h2 h3 => absurd h3 (Nat.not_lt_zero _), keq⟩
    · rintro k σ' ⟨i, hk, hi, hw, rfl⟩ Q1 hQ1
      refine sq fun _ _ => ?_
      refine sq fun _ _ => ?_
      refine rg (sg ?_)
      refine nx ?_
      refine cb (fun h => ?_) (fun h => ?_)
      · have hin : i < p.kids.length := by omega
        have him : i < q.kids.length := by omega
        have hwi : IntKind.i64.wrap ((i : Int) + 1) = ((i + 1 : Nat) : Int) := wrap_succ (by omega)
        have he := el_at (f := cPr) hin
        have he2 := el_at (f := cPr) him
        refine sk (sg ?_)
        refine nx ?_
        refine sq fun _ _ => ?_
        refine bl ?_
        refine sq fun _ _ => ?_
        refine dr [.take 0, .take 1, .take 2, .take 3, .take 4, .take 5, .take 6, .take 7, .take 8, .take 9, .one 10, .pure 11] [] (sg ?_)
        refine and_assoc.2 ?_
        refine And.intro (by first | assumption | omega | rfl | trivial) ?_
        refine And.intro (by first | assumption | omega | rfl | trivial) ?_
        refine and_assoc.2 ?_
        refine And.intro (by first | assumption | omega | rfl | trivial) ?_
        refine And.intro (by first | assumption | omega | rfl | trivial) ?_
        refine cl [] (sg ?_)
        simp (disch := omega) only [el_at]
        refine sg ?_
        refine (ih p.kids[i] (List.getElem_mem hin) q.kids[i] (hp.kid _ (List.getElem_mem hin)) (hq.kid _ (List.getElem_mem him))).mono ?_
        rintro r bx ⟨rfl, rfl⟩
        refine sg ?_
        refine nx ?_
        refine cb (fun h2 => ?_) (fun h2 => ?_)
        · have hne : p.kids ≠ q.kids := fun e => by
            have h3 : p.kids[i] = q.kids[i] := getElem_congr_coll e
            rw [eqP_iff.2 h3] at h2
            cases h2
          have hx : eqP p q = false := by rw [eqP_is, eqPs_ne hne, Bool.and_false]
          refine sq fun _ _ => ?_
          refine rg (sg ?_)
          refine nx ?_
          refine rt (sg ?_)
          refine lr (g := sg ?_)
          refine f1 (g := sg ?_)
          exact ax [] ⟨congrArg A.bool hx.symm, rfl⟩
        · have h3 : p.kids[i] = q.kids[i] := by
            rw [Bool.not_eq_false] at h2
            exact eqP_iff.1 h2
          have hw2 : ∀ (j : Nat) (h1 : j < p.kids.length) (h2 : j < q.kids.length), j < i + 1 → p.kids[j] = q.kids[j] := by
            intro j h1 h2 h4
            by_cases hji : j = i
            · subst hji
              exact h3
            · exact hw j h1 h2 (by omega)
          refine sk (sg ?_)
          refine nx ?_
          refine rg (sg ?_)
          simp (disch := omega) only [wrap_succ]
          refine ln (p.kids.length - (i + 1)) [0, 1] ?_ ?_
          · omega
          exact ⟨i + 1, by omega, by omega, hw2, keq⟩
      · have hall : p.kids = q.kids := eqPs_at hlm fun j h1 h2 => hw j h1 h2 (by omega)
        have hx : eqP p q = true := by rw [eqP_is, h1.1, hall, eqPs_self]; rfl
        refine xt (sg ?_)
        refine lx (g := sg ?_)
        refine nx ?_
        refine sq fun _ _ => ?_
        refine rg (sg ?_)
        refine nx ?_
        refine rt ?_
        refine f1 (g := sg ?_)
        exact ax [] ⟨congrArg A.bool hx.symm, rfl⟩
end
section
set_option maxRecDepth 100000
theorem txE {p q : Pr} (hp : Rg p) (hq : Rg q) (m1 : mayP p = true) (m2 : mayP q = true) : (decide ((if mayP p = true then ofL (txP p) else { data := #[] }) = if mayP q = true then ofL (txP q) else { data := #[] }) == eqP p q) = true := by
  rw [if_pos m1, if_pos m2, beq_iff_eq, Bool.eq_iff_iff, decide_eq_true_eq, eqP_iff]
  constructor
  · intro h
    exact txP_inj (sz_cnt m1).2.2 hp (sz_cnt m2).2.2 hq (congrArg bsL h)
  · rintro rfl
    rfl
theorem c4 (p q : Pr) (hp : Rg p) (hq : Rg q) : PC Tryd.prog 4 [aPr p, aPr q] [] (fun r bx => r = .bool true ∧ bx = []) := by
  refine enter (rs := [.tmp 4]) mx Tryd.func4 Tryd.ntmps4 fun Q0 hQ0 => ?_
  refine sq fun _ _ => ?_
  refine rg (sg ?_)
  refine nx ?_
  refine sq fun _ _ => ?_
  refine sq fun _ _ => ?_
  refine rgs 4 (sgt ?_)
  refine cl [] (sg ?_)
  refine (c11at 9 p (by omega)).mono ?_
  rintro r bx ⟨rfl, rfl⟩
  refine sg ?_
  cases h1 : smP 9 p
  · refine hr 2 (sgt ?_)
    refine hrl (sg ?_)
    refine nx ?_
    refine ct (hx := ?_)
    refine sq fun _ _ => ?_
    refine rg (sg ?_)
    refine cl [] (sg ?_)
    refine (c12).mono ?_
    rintro r bx ⟨rfl, rfl⟩
    refine sg ?_
    refine nx ?_
    refine rt (sg ?_)
    refine f1 (g := sg ?_)
    exact ax [] ⟨rfl, rfl⟩
  · refine hr 2 (sgt ?_)
    refine cl [] (sg ?_)
    refine (c11at 9 q (by omega)).mono ?_
    rintro r bx ⟨rfl, rfl⟩
    refine sg ?_
    cases h2 : smP 9 q
    · refine hrl (sg ?_)
      refine nx ?_
      refine ct (hx := ?_)
      refine sq fun _ _ => ?_
      refine rg (sg ?_)
      refine cl [] (sg ?_)
      refine (c12).mono ?_
      rintro r bx ⟨rfl, rfl⟩
      refine sg ?_
      refine nx ?_
      refine rt (sg ?_)
      refine f1 (g := sg ?_)
      exact ax [] ⟨rfl, rfl⟩
    · have sp : Sm p := smP_sm 9 p h1
      have sq' : Sm q := smP_sm 9 q h2
      have hself : eqP p p = true := eqP_iff.2 rfl
      refine hrl (sg ?_)
      refine nx ?_
      refine cf (hy := ?_)
      refine sk (sg ?_)
      refine nx ?_
      refine sq fun _ _ => ?_
      refine sq fun _ _ => ?_
      refine dfs (.take 0 <| .take 1 <| .take 3 <| .take 4 <| .one 2 <| .one 5 <| .pure 6 <| .pure 7 <| .two 8 9 (.one 9 <| .one 10 <| .pure 11 <| .pure 12 <| .nil) (.one 8 <| .one 10 <| .pure 11 <| .pure 12 <| .nil)) [] ?_
      refine afs (sg ?_)
      refine afs (sg ?_)
      refine afs (sg ?_)
      refine afs (sg ?_)
      refine afs (sg ?_)
      refine cl [] (sg ?_)
      refine (c13 _ _ (by first | assumption | omega | trivial | rfl) (by first | assumption | omega | trivial | rfl)).mono ?_
      rintro r bx ⟨rfl, rfl⟩
      refine sg ?_
      refine afs (sg ?_)
      refine cl [] (sg ?_)
      refine (c14 _ _ (by first | assumption | omega | trivial | rfl) (by first | assumption | omega | trivial | rfl)).mono ?_
      rintro r bx ⟨rfl, rfl⟩
      refine sg ?_
      refine afs (sg ?_)
      refine afs (sg ?_)
      refine afs (sg ?_)
      refine ⟨?_, ?_⟩
      · refine afs (sg ?_)
        refine afs (sg ?_)
        refine cl [] (sg ?_)
        refine (c13 _ _ (by first | assumption | omega | trivial | rfl) (by first | assumption | omega | trivial | rfl)).mono ?_
        rintro r bx ⟨rfl, rfl⟩
        refine sg ?_
        refine afs (sg ?_)
        refine afs (sg ?_)
        refine afs (sg ?_)
        refine nx ?_
        rw [hself]
        refine cf (hy := ?_)
        refine sk (sg ?_)
        refine nx ?_
        refine sq fun _ _ => ?_
        refine sq fun _ _ => ?_
        refine rgs 4 (sgt ?_)
        refine cl [] (sg ?_)
        refine (c15 _ (by first | assumption | omega | trivial | rfl)).mono ?_
        rintro r bx ⟨rfl, rfl⟩
        refine sg ?_
        refine hr 2 (sgt ?_)
        simp only [undef]
        cases m1 : mayP p
        · simp (disch := omega) only [el_at]
          refine sg ?_
          refine hrl (sg ?_)
          refine nx ?_
          refine ct (hx := ?_)
          refine sq fun _ _ => ?_
          refine rg (sg ?_)
          refine cl [] (sg ?_)
          refine (c12).mono ?_
          rintro r bx ⟨rfl, rfl⟩
          refine sg ?_
          refine nx ?_
          refine rt (sg ?_)
          refine f1 (g := sg ?_)
          exact ax [] ⟨rfl, rfl⟩
        · simp (disch := omega) only [el_at]
          refine sg ?_
          refine cl [] (sg ?_)
          refine (c15 _ (by first | assumption | omega | trivial | rfl)).mono ?_
          rintro r bx ⟨rfl, rfl⟩
          refine sg ?_
          refine hrl (sg ?_)
          refine nx ?_
          cases m2 : mayP q
          · refine ct (hx := ?_)
            refine sq fun _ _ => ?_
            refine rg (sg ?_)
            refine cl [] (sg ?_)
            refine (c12).mono ?_
            rintro r bx ⟨rfl, rfl⟩
            refine sg ?_
            refine nx ?_
            refine rt (sg ?_)
            refine f1 (g := sg ?_)
            exact ax [] ⟨rfl, rfl⟩
          · have hE : (decide ((if mayP p = true then ofL (txP p) else { data := #[] }) = if mayP q = true then ofL (txP q) else { data := #[] }) == eqP p q) = true := txE hp hq m1 m2
            refine cf (hy := ?_)
            refine sk (sg ?_)
            refine nx ?_
            refine sq fun _ _ => ?_
            refine dr [.take 0, .take 2, .take 5, .take 6, .one 1, .one 3, .pure 4, .one 7, .pure 8, .pure 9, .one 10, .pure 11, .pure 12] [] (sg ?_)
            refine cl [] (sg ?_)
            refine (c16 _ (by first | assumption | omega | trivial | rfl) (by first | assumption | omega | trivial | rfl)).mono ?_
            rintro r bx ⟨rfl, rfl⟩
            refine sg ?_
            refine cl [] (sg ?_)
            refine (c16 _ (by first | assumption | omega | trivial | rfl) (by first | assumption | omega | trivial | rfl)).mono ?_
            rintro r bx ⟨rfl, rfl⟩
            refine sg ?_
            refine cl [] (sg ?_)
            refine (c14 _ _ (by first | assumption | omega | trivial | rfl) (by first | assumption | omega | trivial | rfl)).mono ?_
            rintro r bx ⟨rfl, rfl⟩
            refine sg ?_
            simp only [undef]
            simp only [go_sem, Nat.reduceAdd, Nat.reduceSub, Nat.reduceMul, Nat.reduceLT, Nat.reduceLeDiff, Nat.reduceEqDiff, reduceIte, reduceCtorEq, if_true, if_false, Int.reduceEq, Int.reduceLT, Int.reduceLE, Int.reduceAdd, Int.reduceSub, Int.reduceMul, Int.reduceNeg, Int.reduceToNat, decide_true, decide_false, Nat.reduceBEq, hE]
            refine cl [] (sg ?_)
            refine (c12).mono ?_
            rintro r bx ⟨rfl, rfl⟩
            refine sg ?_
            refine nx ?_
            refine rt ?_
            refine f1 (g := sg ?_)
            exact ax [] ⟨rfl, rfl⟩
      · refine afs (sg ?_)
        refine afs (sg ?_)
        refine cl [] (sg ?_)
        refine (c13 _ _ (by first | assumption | omega | trivial | rfl) (by first | assumption | omega | trivial | rfl)).mono ?_
        rintro r bx ⟨rfl, rfl⟩
        refine sg ?_
        refine afs (sg ?_)
        refine afs (sg ?_)
        refine afs (sg ?_)
        refine nx ?_
        rw [hself]
        refine cf (hy := ?_)
        refine sk (sg ?_)
        refine nx ?_
        refine sq fun _ _ => ?_
        refine sq fun _ _ => ?_
        refine rgs 4 (sgt ?_)
        refine cl [] (sg ?_)
        refine (c15 _ (by first | assumption | omega | trivial | rfl)).mono ?_
        rintro r bx ⟨rfl, rfl⟩
        refine sg ?_
        refine hr 2 (sgt ?_)
        simp only [undef]
        cases m1 : mayP p
        · simp (disch := omega) only [el_at]
          refine sg ?_
          refine hrl (sg ?_)
          refine nx ?_
          refine ct (hx := ?_)
          refine sq fun _ _ => ?_
          refine rg (sg ?_)
          refine cl [] (sg ?_)
          refine (c12).mono ?_
          rintro r bx ⟨rfl, rfl⟩
          refine sg ?_
          refine nx ?_
          refine rt (sg ?_)
          refine f1 (g := sg ?_)
          exact ax [] ⟨rfl, rfl⟩
        · simp (disch := omega) only [el_at]
          refine sg ?_
          refine cl [] (sg ?_)
          refine (c15 _ (by first | assumption | omega | trivial | rfl)).mono ?_
          rintro r bx ⟨rfl, rfl⟩
          refine sg ?_
          refine hrl (sg ?_)
          refine nx ?_
          cases m2 : mayP q
          · refine ct (hx := ?_)
            refine sq fun _ _ => ?_
            refine rg (sg ?_)
            refine cl [] (sg ?_)
            refine (c12).mono ?_
            rintro r bx ⟨rfl, rfl⟩
            refine sg ?_
            refine nx ?_
            refine rt (sg ?_)
            refine f1 (g := sg ?_)
            exact ax [] ⟨rfl, rfl⟩
          · have hE : (decide ((if mayP p = true then ofL (txP p) else { data := #[] }) = if mayP q = true then ofL (txP q) else { data := #[] }) == eqP p q) = true := txE hp hq m1 m2
            refine cf (hy := ?_)
            refine sk (sg ?_)
            refine nx ?_
            refine sq fun _ _ => ?_
            refine dr [.take 0, .take 2, .take 5, .take 6, .one 1, .one 3, .pure 4, .one 7, .pure 8, .pure 9, .one 10, .pure 11, .pure 12] [] (sg ?_)
            refine cl [] (sg ?_)
            refine (c16 _ (by first | assumption | omega | trivial | rfl) (by first | assumption | omega | trivial | rfl)).mono ?_
            rintro r bx ⟨rfl, rfl⟩
            refine sg ?_
            refine cl [] (sg ?_)
            refine (c16 _ (by first | assumption | omega | trivial | rfl) (by first | assumption | omega | trivial | rfl)).mono ?_
            rintro r bx ⟨rfl, rfl⟩
            refine sg ?_
            refine cl [] (sg ?_)
            refine (c14 _ _ (by first | assumption | omega | trivial | rfl) (by first | assumption | omega | trivial | rfl)).mono ?_
            rintro r bx ⟨rfl, rfl⟩
            refine sg ?_
            simp only [undef]
            simp only [go_sem, Nat.reduceAdd, Nat.reduceSub, Nat.reduceMul, Nat.reduceLT, Nat.reduceLeDiff, Nat.reduceEqDiff, reduceIte, reduceCtorEq, if_true, if_false, Int.reduceEq, Int.reduceLT, Int.reduceLE, Int.reduceAdd, Int.reduceSub, Int.reduceMul, Int.reduceNeg, Int.reduceToNat, decide_true, decide_false, Nat.reduceBEq, hE]
            refine cl [] (sg ?_)
            refine (c12).mono ?_
            rintro r bx ⟨rfl, rfl⟩
            refine sg ?_
            refine nx ?_
            refine rt ?_
            refine f1 (g := sg ?_)
            exact ax [] ⟨rfl, rfl⟩
end
section
open Go.ChangeShapes Go.WideShapes Go.ChangeAt
theorem PC.told {P : Program} {f : FuncId} {args : List A} {t : Bool} (h : PC P f args [] (fun r bx => r = .one (.c (.v (.bool t))) ∧ bx = [])) (w : World) (cargs : Array Value) (hs : Start w) (hg : ∀ g, g ∈ glIds → g < w.heap.size) (hl : args.length = cargs.size)
    (ha : ∀ (j : Nat) a, args[j]? = some a → ∃ v, cargs[j]? = some v ∧ RA (RL [] (fun k => k < w.heap.size) w) a v) :
    Calls P f cargs w fun e w' => e = .returned (.bool t) ∧ Below w.heap.size w w' := by
  have hm : Mem [] (fun k => k < w.heap.size) [] w := ⟨rfl, fun i j b b' g h _ _ _ _ _ => by simp at h, fun i b g h => by simp at h, fun g h => (nomatch h), fun k h => h, fun i b g h => by simp at h, ⟨w, hs, fun g h => ⟨hg g h, rfl⟩⟩⟩
  refine (h.2 _ [] w cargs (fun b h => by cases h) hm hl ha).mono fun e w' ⟨cv, r, bx, ν, ok', he, ⟨hr, hb⟩, hR, hM, hν, hF, _⟩ => ?_
  subst hr
  have hcv : cv = .bool t := hR
  subst hcv
  exact ⟨he, hF.below⟩
theorem own : ownKnob Tryd.prog.godebug = none := by kernel_rfl
end
section
set_option maxRecDepth 100000
section
variable {H : Type} {enc : TypeId × Value → H}
/-- A law over a laid world, whose shape is kept. -/
theorem handed_both {a : Assume} {C : Checked} {os : Os} {f : FuncId} {fn : Func} {s : ChangeSpec} {conds : List PathCond} {apart fresh handsOn again : Bool} {X : World → Array Value → Prop}
    (hX : ∀ (w w' : World) (args : Array Value), w.heap = w'.heap → X w args → X w' args)
    (own : ownKnob C.prog.godebug = none) (started : os.Started) (noInit : C.prog.inits.idxOf? f = none) (hfn : C.prog.funcs[f]? = some fn)
    (witness : ∃ (w : World) (tape : Tape) (i : Input), w.os = os ∧ (w.forCall tape i).Shaped C.prog ∧ i.vars = [] ∧ Input.okWide C.prog (w.forCall tape i) .any w.heap.size f i ∧
      ((s.pre enc C.prog fn conds apart (w.forCall tape i).memory i.args ∧ X (w.forCall tape i).memory i.args) ∧ sizedMet enc C.prog fn (OpenSpec.ofChange s) apart (w.forCall tape i).memory i.args) ∧ a.holds C.prog (lone (Frame.enter C.prog f i.args .normal) [] (w.forCall tape i)))
    (contract : ∀ (W : World) (base : Nat) (args : Array Value) (ds gs : List (DataW H)) (before : List MemPlace),
      (∀ (j : Nat) t v, fn.params[j]? = some t → args[j]? = some v → Value.okWide C.prog W .any base t v) →
      DataW.Whole enc C.prog fn.params.toList s.vars apart W args.toList ds gs before → X W args → W.ShapedOpen C.prog →
      Calls C.prog f args W fun e W' => ∃ v, e = .returned v ∧ s.post enc C.prog fn apart fresh handsOn again W args v W') :
    ReturnsInHanded a C os f .any (fun w args => (s.pre enc C.prog fn conds apart w args ∧ X w args) ∧ sizedMet enc C.prog fn (OpenSpec.ofChange s) apart w args) (s.post enc C.prog fn apart fresh handsOn again) := by
  refine returnsInHanded_of_calls own started noInit witness ?_
  intro w tape i _ hsh _ hok hpre hholds
  obtain ⟨_, _, _, fn', hfn', _, _, _, _, hval⟩ := hok
  have e : fn' = fn := Option.some.inj (hfn'.symm.trans hfn)
  subst e
  obtain ⟨⟨⟨ds, gs, before, hw, hc⟩, hx⟩, hz⟩ := hpre
  refine (contract (w.forCall tape i) w.heap.size i.args ds gs before hval (DataW.Whole.of_heap (w' := w.forCall tape i) (by rfl) hw) (hX _ _ _ (by rfl) hx) hsh).mono fun e W' ⟨v, he, hp⟩ => ?_
  subst he
  exact ChangeSpec.post_blind hp
end
theorem rowErr (u : TypeId) (h : Tryd.prog.typeName? 3 u = some "*errors.errorString") : u = 142 :=
  typeName_ptr_named (nm := "errors.errorString") (by kernel_rfl) (by kernel_rfl) (by decide) u h
theorem lt_var {P : Program} {W : World} {n : String} {g : Nat} {cs : Array Value} (hg : P.globalNamed n = some g) (h : W.var? P n = some cs) : g < W.heap.size := by
  unfold World.var? at h
  simp only [hg, Option.bind_some] at h
  rcases Nat.lt_or_ge g W.heap.size with h' | h'
  · exact h'
  · simp [Array.getElem?_eq_none h'] at h
theorem lt_cell {W : World} {g : Nat} {v : Value} (h : W.cell? ⟨g, 0, none⟩ = some v) : g < W.heap.size := by
  rcases Nat.lt_or_ge g W.heap.size with h' | h'
  · exact h'
  · simp [World.cell?, Array.getElem?_eq_none h'] at h
theorem maxLen_cell {W : World} (h : W.ShapedOpen Tryd.prog) : ∃ m : Int, W.cell? ⟨1, 0, none⟩ = some (.int .i64 m) :=
  cell_of_shapedOpen_int (t := 3) (zero := #[.int .i64 0]) h (by rw [show Tryd.prog.globals.size = 8 from by kernel_rfl]; decide) (by kernel_rfl) rfl (by kernel_rfl) (by kernel_rfl) Tryd.underlying3
end
section
set_option maxRecDepth 100000
abbrev laidP : List (String × DataW Unit) := [("math/bits.deBruijn32tab", Rows.laid_math_bits_deBruijn32tab), ("math/bits.deBruijn64tab", Rows.laid_math_bits_deBruijn64tab), ("internal/strconv.uint64pow10", Rows.laid_internal_strconv_uint64pow10), ("unicode/utf8.acceptRanges", Rows.laid_unicode_utf8_acceptRanges), ("unicode/utf8.first", Rows.laid_unicode_utf8_first)]
theorem startP {W : World} (h0 : laidMetH Tryd.prog laidP W) (hsh : W.ShapedOpen Tryd.prog) : Start W ∧ ∀ g ∈ glIds, g < W.heap.size := by
  rw [MakeChecks.laidMetH_plain _ _ _ (by kernel_rfl)] at h0
  obtain ⟨m, hm⟩ := maxLen_cell hsh
  have h3 : laidMet Tryd.prog (("internal/strconv.uint64pow10", Lib.tabData .u64 Lib.pow10Tab) :: [("unicode/utf8.acceptRanges", Rows.laid_unicode_utf8_acceptRanges), ("unicode/utf8.first", Rows.laid_unicode_utf8_first)]) W := h0.tail.tail
  have hT : Lib.TabIs Tryd.prog W "internal/strconv.uint64pow10" .u64 Lib.pow10Tab := Lib.tabIs_of_head (g := 0) (t := 114) (n := 20) (e := 68) (by kernel_rfl) (by kernel_rfl) Tryd.underlying114 Tryd.underlying68 (by kernel_rfl) (by kernel_rfl) h3
  refine ⟨⟨hT, trivial, trivial, m, hm⟩, fun g hg => ?_⟩
  have hc : g = 0 ∨ g = 1 := by simpa [glIds] using hg
  rcases hc with rfl | rfl
  · exact lt_var (P := Tryd.prog) (n := "internal/strconv.uint64pow10") (by kernel_rfl) hT
  · exact lt_cell hm
end
section
open Go.ChangeShapes Go.WideShapes Go.ChangeAt
theorem prog_laid : laidOutB Tryd.prog = true := by kernel_rfl
theorem predOne_call (p p2 : Pr) (hr : Rg p) (hr2 : Rg p2) (u u2 : Value) (w : World) (hs : Start w) (hg : ∀ g ∈ glIds, g < w.heap.size) (h0 : RC (fun k => k < w.heap.size) w (.sl p.kids.length 9 (elemsOf (p.kids.map cPr))) u) (h1 : RC (fun k => k < w.heap.size) w (.sl p2.kids.length 9 (elemsOf (p2.kids.map cPr))) u2) : Calls Tryd.prog 4 #[.agg (vPr p u).toArray, .agg (vPr p2 u2).toArray] w fun e w' => e = .returned (.bool true) ∧ Below w.heap.size w w' :=
  (c4 p p2 hr hr2).told w _ hs hg rfl fun j a h => by
    rcases j with _ | _ | j
    · obtain rfl := Option.some.inj h; exact ⟨_, rfl, RA_nine h0⟩
    · obtain rfl := Option.some.inj h; exact ⟨_, rfl, RA_nine h1⟩
    · cases h
set_option maxRecDepth 100000 in
theorem predOne_lifted (os : Os) (started : os.Started) (H : Type) (enc : TypeId × Value → H) :
    ReturnsInHanded {} Tryd.checked os 4 .any (fun w args => (Rows.predOneSpec.pre enc Tryd.prog Tryd.f4 [] false w args ∧ laidMetH Tryd.prog laidP w) ∧ sizedMet enc Tryd.prog Tryd.f4 (OpenSpec.ofChange Rows.predOneSpec) false w args)
      (Rows.predOneSpec.post enc Tryd.prog Tryd.f4 false true false false) := by
  refine handed_both (C := Tryd.checked) (X := fun w _ => laidMetH Tryd.prog laidP w) (fun _ _ _ hh h => h.of_heap hh) own started (by kernel_rfl) Tryd.func4
    (ChangeSpec.witness_shaped (enc := enc) (C := Tryd.checked) (os := os) (X := fun w _ => laidMetH Tryd.prog laidP w) false (World.laidAll Tryd.prog os laidP) #[.agg #[.int .i64 0, .string ⟨#[]⟩, .int .i64 0, .bool false, .int .i64 0, .string ⟨#[]⟩, .int .i64 0, .string ⟨#[]⟩, .slice none 0 0], .agg #[.int .i64 0, .string ⟨#[]⟩, .int .i64 0, .bool false, .int .i64 0, .string ⟨#[]⟩, .int .i64 0, .string ⟨#[]⟩, .slice none 0 0]] 8 (World.laidAll_os _ _ _)
      (World.shaped_of_ZipB (by kernel_rfl) (by kernel_rfl)) (by kernel_rfl) (by kernel_rfl) (by kernel_rfl)
      (by rw [MakeChecks.laidMetH_plain _ _ _ (by kernel_rfl)]; exact laidMet_laidAll _ (by kernel_rfl) (by kernel_rfl))) ?_
  intro W base args ds gs before hval0 hW hX hsh
  obtain ⟨hs, hg⟩ := startP hX hsh
  have hval : ∀ (j : Nat) t v, Tryd.f4.params[j]? = some t → args[j]? = some v → Value.okWide Tryd.prog W .any base t v := hval0
  have hW' := hW
  obtain ⟨p, q, hA0, hV, rfl, _, _⟩ := hW
  have hA : DataW.TrodAll enc Tryd.prog W 0 (fun _ => true) true Tryd.f4.params.toList args.toList ds p := hA0
  rw [Tryd.params4] at hA hval
  obtain ⟨v0, v1, d0, d1, p0, p1, rfl, rfl, rfl, h0, h1⟩ := trodAll_two hA
  obtain ⟨rfl, rfl⟩ := trodVars_none hV
  obtain ⟨cs0, rfl, _⟩ := okWide_struct Tryd.underlying35 (hval 0 35 v0 rfl rfl)
  obtain ⟨cs1, rfl, _⟩ := okWide_struct Tryd.underlying35 (hval 1 35 v1 rfl rfl)
  have lt0 : ∀ x ∈ p0, x.block < W.heap.size := by obtain ⟨m, hm⟩ := h0; exact DataW.trod_lt m _ _ _ hm
  have lt1 : ∀ x ∈ p1, x.block < W.heap.size := by obtain ⟨m, hm⟩ := h1; exact DataW.trod_lt m _ _ _ hm
  obtain ⟨p0', u0, e0, r0, hR0⟩ : ∃ (pr : Pr) (u : Value), cs0 = (vPr pr u).toArray ∧ RC (fun k => k < W.heap.size) W (.sl pr.kids.length 9 (elemsOf (pr.kids.map cPr))) u ∧ Rg pr := by
    obtain ⟨m, hm⟩ := h0
    obtain ⟨pr, u, hu, hr, hR⟩ := open_pr m m _ _ (Nat.le_refl _) hm
    refine ⟨pr, u, ?_, hr, hR⟩
    have h : cs0.toList = _ := hu
    cases cs0
    simp_all
  obtain ⟨pr, u1, e1, r1, hR⟩ : ∃ (pr : Pr) (u : Value), cs1 = (vPr pr u).toArray ∧ RC (fun k => k < W.heap.size) W (.sl pr.kids.length 9 (elemsOf (pr.kids.map cPr))) u ∧ Rg pr := by
    obtain ⟨m, hm⟩ := h1
    obtain ⟨pr, u, hu, hr, hR⟩ := open_pr m m _ _ (Nat.le_refl _) hm
    refine ⟨pr, u, ?_, hr, hR⟩
    have h : cs1.toList = _ := hu
    cases cs1
    simp_all
  rw [e0] at h0 hW'
  rw [e1] at h1 hW'
  rw [e0, e1]
  simp only [List.append_nil] at hW'
  refine (predOne_call p0' pr hR0 hR u0 u1 W hs hg r0 r1).mono fun e W' ⟨he, hb⟩ => ?_
  subst he
  have hb0 := Below.trod prog_laid (by kernel_rfl) (of_decide_eq_true (by kernel_rfl)) h0 hb lt0
  have hb1 := Below.trod prog_laid (by kernel_rfl) (of_decide_eq_true (by kernel_rfl)) h1 hb lt1
  exact ⟨_, rfl, _, _, _, [], _, [], hW', trodAll_mk1 (shut_bool Tryd.underlying4 _), trodAll_cons_mk hb0 (trodAll_cons_mk hb1 trodAll_mk0), rfl, hb.frame _, fun h => by cases h⟩
theorem predOne_holds : Rows.PredOneSaid :=
  OpenClaim.holds_of_wide 4 Tryd.f4 rfl rfl rfl rfl rfl rfl rfl ⟨rfl, rfl, rfl, rfl, rfl⟩ rfl rfl rfl rfl rfl (by kernel_rfl) Tryd.func4 (by kernel_rfl)
    (of_decide_eq_true (by kernel_rfl)) (by unfold Func.isWrapper; first | (rw [if_pos (by decide +kernel)]; kernel_rfl) | (rw [if_neg (by decide +kernel)]; exact ⟨rfl, rfl⟩))
    (fun os started H enc _ => predOne_lifted os started H enc)
theorem predOne_card : Rows.PredOneCardSaid :=
  Claim7.holds_tied_plain_at .later [] [.data, .data, .data, .data, .pinned] true (true, "ef0624f603a2a1a8a5829bb336d2f7617a5d47f0a7c55a91e6a86ee3f243a27e") true predOne_holds (fun _ h => by cases h) (by kernel_rfl) (fun _ h => by cases h) predOne_row_tie rfl ⟨rfl, rfl⟩ (by kernel_rfl) rfl
    (fun f fn hf hfn => by
      obtain rfl : f = 4 := Option.some.inj ((show Tryd.prog.funcNamed "firkin/firkinlaw17.PredOne" = some 4 by kernel_rfl).symm.trans hf) |>.symm
      obtain rfl : fn = Tryd.f4 := (Option.some.inj (Tryd.func4.symm.trans hfn)).symm
      exact ⟨by kernel_rfl, fun j t ht => by
        rw [Tryd.params4] at ht
        have hm : t ∈ [35, 35] := by simpa using Array.mem_of_getElem? ht
        have hall : ([35, 35].all fun u => !Tryd.prog.wantsStandIn u) = true := by kernel_rfl
        exact (show Tryd.prog.wantsStandIn t = false by simpa using List.all_eq_true.1 hall t hm)⟩)
    (by kernel_rfl)
end
end Go.Proofs.YthafcbbkjdbomaaDoor.V
