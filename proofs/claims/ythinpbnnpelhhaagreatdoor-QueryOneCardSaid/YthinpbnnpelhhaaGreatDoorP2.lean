import Derived.Test.YthinpbnnpelhhaaGreatDoorP1
import Derived.Test.YthinpbnnpelhhaaGreatDoorQ1
namespace Go.Proofs.YthinpbnnpelhhaaGreatDoor.V
open Go Go.RowKit Go.Proofs.YthinpbnnpelhhaaGreatDoorW.PrintLast
open Go.Proofs
set_option linter.unusedVariables false
set_option linter.unusedSimpArgs false
attribute [local irreducible] awp
/-! Names, cells, and a predicate's own fields; texts. -/
abbrev e0 : ByteArray := ⟨#[]⟩
def wordsQ : List ByteArray := [⟨#[97, 110, 100]⟩, ⟨#[111, 114]⟩, ⟨#[110, 111, 116]⟩, ⟨#[105, 115]⟩, ⟨#[110, 117, 108, 108]⟩, ⟨#[108, 105, 107, 101]⟩, ⟨#[116, 114, 117, 101]⟩, ⟨#[102, 97, 108, 115, 101]⟩, ⟨#[115, 101, 108, 101, 99, 116]⟩, ⟨#[102, 114, 111, 109]⟩, ⟨#[119, 104, 101, 114, 101]⟩, ⟨#[103, 114, 111, 117, 112]⟩, ⟨#[98, 121]⟩, ⟨#[97, 108, 108]⟩, ⟨#[99, 111, 117, 110, 116]⟩, ⟨#[104, 97, 115]⟩, ⟨#[115, 117, 109]⟩, ⟨#[109, 105, 110]⟩, ⟨#[109, 97, 120]⟩]
/-- A name's bytes: a letter, then letters, digits, and low lines. -/
def nmL : List UInt8 → Bool
  | [] => false
  | c :: r => letC c && r.all namC
/-- May it be a name? -/
def nameB (s : ByteArray) : Bool := nmL (bsL s) && !(wordsQ.any fun w => decide (w = s)) && decide (s.size ≤ 12)
theorem nmL_at : ∀ l : List UInt8, nmL l = true ↔ l ≠ [] ∧ ∀ (i : Nat) (c : UInt8), l[i]? = some c → letC c = true ∨ (i ≠ 0 ∧ namC c = true)
  | [] => by simp [nmL]
  | c :: r => by
    unfold nmL
    rw [Bool.and_eq_true, List.all_eq_true]
    constructor
    · rintro ⟨h1, h2⟩
      refine ⟨by simp, fun i d h => ?_⟩
      cases i with
      | zero => rw [List.getElem?_cons_zero] at h; obtain rfl := Option.some.inj h; exact .inl h1
      | succ i => rw [List.getElem?_cons_succ] at h; exact .inr ⟨by omega, h2 d (List.mem_of_getElem? h)⟩
    · rintro ⟨_, h⟩
      refine ⟨(h 0 c rfl).resolve_right fun h => h.1 rfl, fun d hd => ?_⟩
      obtain ⟨i, hi⟩ := List.getElem?_of_mem hd
      rcases h (i + 1) d hi with h | h
      · unfold namC; rw [h]; rfl
      · exact h.2
theorem nameB_iff (s : ByteArray) : nameB s = true ↔ (∀ (i : Nat) (c : UInt8), (bsL s)[i]? = some c → letC c = true ∨ (i ≠ 0 ∧ namC c = true)) ∧ (∀ w ∈ wordsQ, w ≠ s) ∧ 1 ≤ s.size ∧ s.size ≤ 12 := by
  have hl := len_bsL s
  unfold nameB
  rw [Bool.and_eq_true, Bool.and_eq_true, nmL_at, decide_eq_true_eq, Bool.not_eq_true', List.any_eq_false]
  constructor
  · rintro ⟨⟨⟨h1, h2⟩, h3⟩, h4⟩
    refine ⟨h2, fun w hw => by simpa using h3 w hw, ?_, h4⟩
    cases hb : bsL s with
    | nil => exact absurd hb h1
    | cons c r => rw [← hl, hb]; simp
  · rintro ⟨h1, h2, h3, h4⟩
    refine ⟨⟨⟨fun h => ?_, h1⟩, fun w hw => by simpa using h2 w hw⟩, h4⟩
    rw [h] at hl
    simp at hl
    omega
/-- May a cell be one of a type? -/
def MayC (ty : Int) (nl : Bool) (c : Ce) : Prop := 1 ≤ ty ∧ ty ≤ 3 ∧ ((c.nl = true ∧ nl = true ∧ c.i = 0 ∧ c.s = e0) ∨ (c.nl = false ∧ ty = 3 ∧ c.i = 0 ∧ c.s.size ≤ 40) ∨ (c.nl = false ∧ ty ≠ 3 ∧ c.s = e0 ∧ (ty = 1 ∨ c.i = 0 ∨ c.i = 1)))
instance (ty : Int) (nl : Bool) (c : Ce) : Decidable (MayC ty nl c) := by unfold MayC; infer_instance
/-- Is nothing of a value there? -/
def V0 (p : Pr) : Prop := p.val.nl = false ∧ p.val.i = 0 ∧ p.val.s = e0
instance (p : Pr) : Decidable (V0 p) := by unfold V0; infer_instance
/-- May a predicate's own fields be, and so many kids? -/
def HdP (p : Pr) : Prop :=
  (p.op = 1 ∧ p.col = e0 ∧ p.cmp = 0 ∧ V0 p ∧ p.kind = 0 ∧ p.pat = e0 ∧ p.kids.length = 0) ∨
  (p.op = 2 ∧ nameB p.col = true ∧ 1 ≤ p.cmp ∧ p.cmp ≤ 6 ∧ MayC p.kind false p.val ∧ p.pat = e0 ∧ p.kids.length = 0) ∨
  (p.op = 3 ∧ nameB p.col = true ∧ p.cmp = 0 ∧ V0 p ∧ p.kind = 0 ∧ p.pat = e0 ∧ p.kids.length = 0) ∨
  (p.op = 4 ∧ nameB p.col = true ∧ p.cmp = 0 ∧ V0 p ∧ p.kind = 0 ∧ p.pat.size ≤ 40 ∧ p.kids.length = 0) ∨
  (5 ≤ p.op ∧ p.op ≤ 7 ∧ p.col = e0 ∧ p.cmp = 0 ∧ V0 p ∧ p.kind = 0 ∧ p.pat = e0 ∧ (p.op = 5 → p.kids.length = 1) ∧ (6 ≤ p.op → 2 ≤ p.kids.length))
instance (p : Pr) : Decidable (HdP p) := by unfold HdP; infer_instance
/-- And are none of its kids of its kind, if it joins them? -/
def ndP (p : Pr) : Bool := decide (HdP p) && !(decide (6 ≤ p.op) && p.kids.any fun k => decide (k.op = p.op))
/-- May it be, but for how great it is? -/
def oneP (p : Pr) : Bool := allP ndP p
def mayP (p : Pr) : Bool := decide (szP 6 16 p ≤ 16) && oneP p
/-! Texts. -/
def signL (m : Int) : List UInt8 := if m = 1 then [61] else if m = 2 then [60, 62] else if m = 3 then [60] else if m = 4 then [60, 61] else if m = 5 then [62] else [62, 61]
def valS (ty : Int) (c : Ce) : List UInt8 :=
  if c.nl then [110, 117, 108, 108] else if ty = 1 then Lib.itoa c.i else if ty = 3 then bsL (quoS c.s)
  else if ty = 2 then (if c.i = 0 then [102, 97, 108, 115, 101] else [116, 114, 117, 101]) else []
/-- A kid's text, in brackets if they must be. -/
def parL (op ko : Int) (t : List UInt8) : List UInt8 := if (op = 5 ∧ 6 ≤ ko) ∨ (op = 6 ∧ ko = 7) then 40 :: (t ++ [41]) else t
def sepL (op : Int) : List UInt8 := if op = 6 then [32, 97, 110, 100, 32] else [32, 111, 114, 32]
mutual
def txP : Pr → List UInt8
  | .mk op col cmp val kind pat kids =>
    if op = 1 then [97, 108, 108]
    else if op = 2 then bsL col ++ (32 :: (signL cmp ++ (32 :: valS kind val)))
    else if op = 3 then bsL col ++ [32, 105, 115, 32, 110, 117, 108, 108]
    else if op = 4 then bsL col ++ ([32, 108, 105, 107, 101, 32] ++ bsL (quoS pat))
    else (if op = 5 then [110, 111, 116, 32] else []) ++ Lib.join (txPs op kids) (sepL op)
def txPs (op : Int) : List Pr → List (List UInt8)
  | [] => []
  | k :: r => parL op k.op (txP k) :: txPs op r
end
theorem txPs_map (op : Int) : ∀ l, txPs op l = l.map fun k => parL op k.op (txP k)
  | [] => by rw [txPs]; rfl
  | k :: r => by rw [txPs, txPs_map op r]; rfl
theorem txP_eq (p : Pr) : txP p = if p.op = 1 then [97, 108, 108]
    else if p.op = 2 then bsL p.col ++ (32 :: (signL p.cmp ++ (32 :: valS p.kind p.val)))
    else if p.op = 3 then bsL p.col ++ [32, 105, 115, 32, 110, 117, 108, 108]
    else if p.op = 4 then bsL p.col ++ ([32, 108, 105, 107, 101, 32] ++ bsL (quoS p.pat))
    else (if p.op = 5 then [110, 111, 116, 32] else []) ++ Lib.join (p.kids.map fun k => parL p.op k.op (txP k)) (sepL p.op) := by
  obtain ⟨o, c, m, v, k, pt, ks⟩ := p
  rw [txP, txPs_map]
  rfl
theorem ba_ext {a b : ByteArray} (h : bsL a = bsL b) : a = b := by
  obtain ⟨⟨x⟩⟩ := a
  obtain ⟨⟨y⟩⟩ := b
  congr 2
theorem bsL_app (a b : ByteArray) : bsL (a ++ b) = bsL a ++ bsL b := by simp [bsL, ByteArray.data_append]
theorem bsL_of (l : List UInt8) : bsL (ofL l) = l := rfl
theorem of_bsL (s : ByteArray) : ofL (bsL s) = s := rfl
theorem oneP_eq (p : Pr) : oneP p = (ndP p && p.kids.all oneP) := allP_eq ndP p
theorem oneP_kid {p : Pr} (h : oneP p = true) : ∀ x ∈ p.kids, oneP x = true := by
  rw [oneP_eq, Bool.and_eq_true, List.all_eq_true] at h
  exact h.2
theorem oneP_hd {p : Pr} (h : oneP p = true) : HdP p := by
  rw [oneP_eq, Bool.and_eq_true] at h
  have h1 := h.1
  unfold ndP at h1
  rw [Bool.and_eq_true, decide_eq_true_eq] at h1
  exact h1.1

end Go.Proofs.YthinpbnnpelhhaaGreatDoor.V
