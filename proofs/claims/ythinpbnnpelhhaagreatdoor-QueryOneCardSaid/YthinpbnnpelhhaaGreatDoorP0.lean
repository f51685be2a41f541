import Derived.Test.YthinpbnnpelhhaaGreatDoorS3
namespace Go.Proofs.YthinpbnnpelhhaaGreatDoor.V
open Go Go.RowKit Go.Proofs.YthinpbnnpelhhaaGreatDoorW.PrintLast
open Go.Proofs
set_option linter.unusedVariables false
set_option linter.unusedSimpArgs false
attribute [local irreducible] awp
/-! Predicates, plainly. -/
structure Ce where
  nl : Bool
  i : Int
  s : ByteArray
structure Co where
  nm : ByteArray
  ty : Int
  nl : Bool
inductive Pr where
  | mk (op : Int) (col : ByteArray) (cmp : Int) (val : Ce) (kind : Int) (pat : ByteArray) (kids : List Pr)
def Pr.op : Pr → Int | .mk o _ _ _ _ _ _ => o
def Pr.col : Pr → ByteArray | .mk _ c _ _ _ _ _ => c
def Pr.cmp : Pr → Int | .mk _ _ m _ _ _ _ => m
def Pr.val : Pr → Ce | .mk _ _ _ v _ _ _ => v
def Pr.kind : Pr → Int | .mk _ _ _ _ k _ _ => k
def Pr.pat : Pr → ByteArray | .mk _ _ _ _ _ p _ => p
def Pr.kids : Pr → List Pr | .mk _ _ _ _ _ _ l => l
structure Ae where
  op : Int
  col : ByteArray
structure Qu where
  table : ByteArray
  cols : List ByteArray
  whr : Pr
  aggs : List Ae
  by_ : ByteArray
def cCe (x : Ce) : List C := [.v (.bool x.nl), .v (.int .i64 x.i), .v (.string x.s)]
def cCo (x : Co) : List C := [.v (.string x.nm), .v (.int .i64 x.ty), .v (.bool x.nl)]
def cAe (x : Ae) : List C := [.v (.int .i64 x.op), .v (.string x.col)]
def cSt (x : ByteArray) : List C := [.v (.string x)]
abbrev aCe (x : Ce) : A := .agg [.c (.v (.bool x.nl)), .c (.v (.int .i64 x.i)), .c (.v (.string x.s))]
abbrev aCo (x : Co) : A := .agg [.c (.v (.string x.nm)), .c (.v (.int .i64 x.ty)), .c (.v (.bool x.nl))]
abbrev aAe (x : Ae) : A := .agg [.c (.v (.int .i64 x.op)), .c (.v (.string x.col))]
theorem el_Ce0 (x : Ce) : el (cCe x) 0 = .v (.bool x.nl) := rfl
theorem el_Ce1 (x : Ce) : el (cCe x) 1 = .v (.int .i64 x.i) := rfl
theorem el_Ce2 (x : Ce) : el (cCe x) 2 = .v (.string x.s) := rfl
theorem el_Co0 (x : Co) : el (cCo x) 0 = .v (.string x.nm) := rfl
theorem el_Co1 (x : Co) : el (cCo x) 1 = .v (.int .i64 x.ty) := rfl
theorem el_Co2 (x : Co) : el (cCo x) 2 = .v (.bool x.nl) := rfl
theorem el_Ae0 (x : Ae) : el (cAe x) 0 = .v (.int .i64 x.op) := rfl
theorem el_Ae1 (x : Ae) : el (cAe x) 1 = .v (.string x.col) := rfl
theorem el_St0 (x : ByteArray) : el (cSt x) 0 = .v (.string x) := rfl
mutual
def cPr : Pr → List C
  | .mk op col cmp val kind pat kids => [.v (.int .i64 op), .v (.string col), .v (.int .i64 cmp), .v (.bool val.nl), .v (.int .i64 val.i), .v (.string val.s), .v (.int .i64 kind), .v (.string pat), .sl kids.length 9 (elemsOf (cPrs kids))]
def cPrs : List Pr → List (List C)
  | [] => []
  | x :: r => cPr x :: cPrs r
end
theorem cPrs_map : ∀ l : List Pr, cPrs l = l.map cPr
  | [] => by rw [cPrs]; rfl
  | x :: r => by rw [cPrs, cPrs_map r]; rfl
theorem cPr_eq (p : Pr) : cPr p = [.v (.int .i64 p.op), .v (.string p.col), .v (.int .i64 p.cmp), .v (.bool p.val.nl), .v (.int .i64 p.val.i), .v (.string p.val.s), .v (.int .i64 p.kind), .v (.string p.pat), .sl p.kids.length 9 (elemsOf (p.kids.map cPr))] := by
  obtain ⟨o, c, m, v, k, pt, ks⟩ := p
  rw [cPr, cPrs_map]
  rfl
abbrev aPr (p : Pr) : A := .agg [.c (.v (.int .i64 p.op)), .c (.v (.string p.col)), .c (.v (.int .i64 p.cmp)), .c (.v (.bool p.val.nl)), .c (.v (.int .i64 p.val.i)), .c (.v (.string p.val.s)), .c (.v (.int .i64 p.kind)), .c (.v (.string p.pat)), .c (.sl p.kids.length 9 (elemsOf (p.kids.map cPr)))]
theorem el_Pr0 (p : Pr) : el (cPr p) 0 = .v (.int .i64 p.op) := by rw [cPr_eq]; rfl
theorem el_Pr1 (p : Pr) : el (cPr p) 1 = .v (.string p.col) := by rw [cPr_eq]; rfl
theorem el_Pr2 (p : Pr) : el (cPr p) 2 = .v (.int .i64 p.cmp) := by rw [cPr_eq]; rfl
theorem el_Pr3 (p : Pr) : el (cPr p) 3 = .v (.bool p.val.nl) := by rw [cPr_eq]; rfl
theorem el_Pr4 (p : Pr) : el (cPr p) 4 = .v (.int .i64 p.val.i) := by rw [cPr_eq]; rfl
theorem el_Pr5 (p : Pr) : el (cPr p) 5 = .v (.string p.val.s) := by rw [cPr_eq]; rfl
theorem el_Pr6 (p : Pr) : el (cPr p) 6 = .v (.int .i64 p.kind) := by rw [cPr_eq]; rfl
theorem el_Pr7 (p : Pr) : el (cPr p) 7 = .v (.string p.pat) := by rw [cPr_eq]; rfl
theorem el_Pr8 (p : Pr) : el (cPr p) 8 = .sl p.kids.length 9 (elemsOf (p.kids.map cPr)) := by rw [cPr_eq]; rfl
attribute [go_sem] aCe aCo aAe aPr el_Ce0 el_Ce1 el_Ce2 el_Co0 el_Co1 el_Co2 el_Ae0 el_Ae1 el_St0 el_Pr0 el_Pr1 el_Pr2 el_Pr3 el_Pr4 el_Pr5 el_Pr6 el_Pr7 el_Pr8
/-! How many predicates there are, and how deep they go. -/
mutual
def Pr.cnt : Pr → Nat
  | .mk _ _ _ _ _ _ l => cnts l + 1
def cnts : List Pr → Nat
  | [] => 0
  | x :: r => x.cnt + cnts r
end
mutual
def Pr.dep : Pr → Nat
  | .mk _ _ _ _ _ _ l => deps l + 1
def deps : List Pr → Nat
  | [] => 0
  | x :: r => max x.dep (deps r)
end
theorem cnt_eq (p : Pr) : p.cnt = cnts p.kids + 1 := by
  obtain ⟨o, c, m, v, k, pt, ks⟩ := p
  rw [Pr.cnt]
  rfl
theorem dep_eq (p : Pr) : p.dep = deps p.kids + 1 := by
  obtain ⟨o, c, m, v, k, pt, ks⟩ := p
  rw [Pr.dep]
  rfl
theorem cnt_mem : ∀ {l : List Pr} {x : Pr}, x ∈ l → x.cnt ≤ cnts l
  | y :: r, x, h => by
    rw [cnts]
    rcases List.mem_cons.1 h with rfl | h
    · omega
    · have := cnt_mem h
      omega
theorem cnt_kid {p x : Pr} (h : x ∈ p.kids) : x.cnt < p.cnt := by
  have := cnt_mem h
  rw [cnt_eq p]
  omega
theorem cnt_pos (p : Pr) : 0 < p.cnt := by
  rw [cnt_eq]
  omega
theorem cnt_len : ∀ l : List Pr, l.length ≤ cnts l
  | [] => Nat.zero_le _
  | x :: r => by
    have := cnt_len r
    have := cnt_pos x
    rw [cnts, List.length_cons]
    omega
/-- A law of all predicates, if it is of one as far as it is of its kids. -/
theorem Pr.by_kids {M : Pr → Prop} (h : ∀ p : Pr, (∀ x ∈ p.kids, M x) → M p) : ∀ p, M p := by
  have key : ∀ (n : Nat) (p : Pr), p.cnt ≤ n → M p := by
    intro n
    induction n with
    | zero => intro p hp; have := cnt_pos p; omega
    | succ n ih => intro p hp; exact h p fun x hx => ih x (by have := cnt_kid hx; omega)
  exact fun p => key _ p (Nat.le_refl _)
/-- Is one not too great, and not too deep? -/
def smP : Nat → Pr → Bool
  | 0, _ => false
  | n + 1, p => decide (p.kids.length ≤ 20) && decide (p.col.size ≤ 100) && decide (p.pat.size ≤ 100) && decide (p.val.s.size ≤ 100) && p.kids.all (smP n)
/-- What a small one is, and all within it. -/
inductive Sm : Pr → Prop
  | mk (p : Pr) (hk : p.kids.length ≤ 20) (hc : p.col.size ≤ 100) (hp : p.pat.size ≤ 100) (hv : p.val.s.size ≤ 100) (h : ∀ x ∈ p.kids, Sm x) : Sm p
theorem Sm.len {p : Pr} (h : Sm p) : p.kids.length ≤ 20 := by cases h; assumption
theorem Sm.col {p : Pr} (h : Sm p) : p.col.size ≤ 100 := by cases h; assumption
theorem Sm.pat {p : Pr} (h : Sm p) : p.pat.size ≤ 100 := by cases h; assumption
theorem Sm.val {p : Pr} (h : Sm p) : p.val.s.size ≤ 100 := by cases h; assumption
theorem Sm.kid {p : Pr} (h : Sm p) : ∀ x ∈ p.kids, Sm x := by cases h; assumption
theorem smP_sm : ∀ (n : Nat) (p : Pr), smP n p = true → Sm p
  | 0, p, h => by simp [smP] at h
  | n + 1, p, h => by
    simp only [smP, Bool.and_eq_true, decide_eq_true_eq, List.all_eq_true] at h
    exact .mk p h.1.1.1.1 h.1.1.1.2 h.1.1.2 h.1.2 fun x hx => smP_sm n x (h.2 x hx)
/-- How many there are, up to some number, none deeper than so much. -/
def szL (f : Int → Pr → Int) (m : Int) : Int → List Pr → Int
  | n, [] => n
  | n, k :: r => if n ≤ 16 then szL f m (n + f (m - n) k) r else n
def szP : Nat → Int → Pr → Int
  | 0, _, _ => 17
  | d + 1, m, p => if m < 1 then 17 else szL (szP d) m 1 p.kids
theorem szL_pos (f : Int → Pr → Int) (m : Int) : ∀ (l : List Pr) (n : Int), 1 ≤ n → (∀ a k, k ∈ l → 1 ≤ f a k) → 1 ≤ szL f m n l
  | [], n, h, _ => h
  | k :: r, n, h, hf => by
    unfold szL
    split
    · have := hf (m - n) k (by simp)
      exact szL_pos f m r _ (by omega) fun a x hx => hf a x (by simp [hx])
    · exact h
theorem szP_pos : ∀ (d : Nat) (m : Int) (p : Pr), 1 ≤ szP d m p
  | 0, m, p => by simp [szP]
  | d + 1, m, p => by
    unfold szP
    split
    · omega
    · exact szL_pos _ _ _ _ (by omega) fun a k _ => szP_pos d a k
theorem szL_le (f : Int → Pr → Int) (m B : Int) (hf : ∀ a k, f a k ≤ B) (hB : 0 ≤ B) : ∀ (l : List Pr) (n : Int), n ≤ 16 + B → szL f m n l ≤ 16 + B
  | [], n, h => h
  | k :: r, n, h => by
    unfold szL
    split
    · have := hf (m - n) k
      exact szL_le f m B hf hB r _ (by omega)
    · exact h
theorem szP_le : ∀ (d : Nat) (m : Int) (p : Pr), szP d m p ≤ 17 + 16 * (d : Int)
  | 0, m, p => by simp [szP]
  | d + 1, m, p => by
    unfold szP
    split
    · omega
    · have := szL_le (szP d) m (17 + 16 * (d : Int)) (fun a k => szP_le d a k) (by omega) p.kids 1 (by omega)
      omega
/-- It is the number, if that is not too great; else it is more than may be. -/
theorem szL_is (d : Nat) (ih : ∀ (m : Int) (p : Pr), m ≤ 16 → (p.dep ≤ d ∧ (p.cnt : Int) ≤ m → szP d m p = p.cnt) ∧ (¬ (p.dep ≤ d ∧ (p.cnt : Int) ≤ m) → m < szP d m p)) (m : Int) (hm : m ≤ 16) :
    ∀ (l : List Pr) (n : Int), 1 ≤ n → (deps l ≤ d ∧ n + (cnts l : Int) ≤ m → szL (szP d) m n l = n + cnts l) ∧ (¬ (deps l ≤ d ∧ n + (cnts l : Int) ≤ m) → m < szL (szP d) m n l)
  | [], n, hn => by
    simp only [deps, cnts, szL]
    constructor
    · intro h; omega
    · intro h; omega
  | k :: r, n, hn => by
    have h1 := ih (m - n) k (by omega)
    have hp := szP_pos d (m - n) k
    have hk := cnt_pos k
    have h2 := szL_is d ih m hm r (n + szP d (m - n) k) (by omega)
    simp only [deps, cnts]
    unfold szL
    by_cases hn16 : n ≤ 16
    · rw [if_pos hn16]
      by_cases hK : k.dep ≤ d ∧ (k.cnt : Int) ≤ m - n
      · have h3 := h1.1 hK
        rw [h3] at h2 ⊢
        constructor
        · intro h
          rw [h2.1 ⟨by omega, by omega⟩]
          omega
        · intro h
          exact h2.2 fun h4 => h ⟨by omega, by omega⟩
      · have h3 := h1.2 hK
        constructor
        · intro h
          exact absurd ⟨by omega, by omega⟩ hK
        · intro _
          exact h2.2 fun h4 => by omega
    · rw [if_neg hn16]
      constructor
      · intro h; omega
      · intro _; omega
theorem szP_is : ∀ (d : Nat) (m : Int) (p : Pr), m ≤ 16 → (p.dep ≤ d ∧ (p.cnt : Int) ≤ m → szP d m p = p.cnt) ∧ (¬ (p.dep ≤ d ∧ (p.cnt : Int) ≤ m) → m < szP d m p)
  | 0, m, p, hm => by
    have := dep_eq p
    refine ⟨fun h => by omega, fun _ => ?_⟩
    show m < 17
    omega
  | d + 1, m, p, hm => by
    have hd := dep_eq p
    have hc := cnt_eq p
    unfold szP
    by_cases h1 : m < 1
    · rw [if_pos h1]
      exact ⟨fun h => by omega, fun _ => by omega⟩
    · rw [if_neg h1]
      have h2 := szL_is d (fun m p => szP_is d m p) m hm p.kids 1 (by omega)
      constructor
      · intro h
        rw [h2.1 ⟨by omega, by omega⟩]
        omega
      · intro h
        exact h2.2 fun h3 => h ⟨by omega, by omega⟩

end Go.Proofs.YthinpbnnpelhhaaGreatDoor.V
