import Derived.Test.YthinpbnnpelhhaaGreatDoorV22
import Derived.Lib.ItoaMem
import Derived.Lib.ParseIntB
import Derived.Laws.RangeAny
import Derived.Laws.RangeString
namespace Go.Proofs.YthinpbnnpelhhaaGreatDoor.V
open Go Go.RowKit Go.Proofs.YthinpbnnpelhhaaGreatDoorW.PrintLast
open Go.Proofs
set_option linter.unusedVariables false
set_option linter.unusedSimpArgs false
attribute [local irreducible] awp
/-! Words of queries, plainly. -/
abbrev bsL (s : ByteArray) : List UInt8 := s.data.toList
abbrev ofL (l : List UInt8) : ByteArray := ⟨l.toArray⟩
def letC (c : UInt8) : Bool := decide (97 ≤ c.toNat) && decide (c.toNat ≤ 122)
def digC (c : UInt8) : Bool := decide (48 ≤ c.toNat) && decide (c.toNat ≤ 57)
def namC (c : UInt8) : Bool := letC c || digC c || decide (c.toNat = 95)
def blkC (c : UInt8) : Bool := decide (c.toNat = 32) || decide (c.toNat = 9) || decide (c.toNat = 10)
/-- How many bytes are such. -/
def runL (p : UInt8 → Bool) : List UInt8 → Nat
  | [] => 0
  | c :: r => if p c then runL p r + 1 else 0
theorem runL_le (p : UInt8 → Bool) : ∀ l, runL p l ≤ l.length
  | [] => Nat.le_refl _
  | c :: r => by
    unfold runL
    have := runL_le p r
    split
    · simp; omega
    · exact Nat.zero_le _
theorem runL_last (p : UInt8 → Bool) : ∀ (l : List UInt8) (i : Nat) (c : UInt8), l[i]? = some c → i < runL p l → p c = true
  | [], i, c, h, _ => by simp at h
  | d :: r, i, c, h, hi => by
    unfold runL at hi
    split at hi
    · rename_i hc
      cases i with
      | zero => rw [List.getElem?_cons_zero] at h; obtain rfl := Option.some.inj h; exact hc
      | succ i => rw [List.getElem?_cons_succ] at h; exact runL_last p r i c h (by omega)
    · omega
/-- The number that digits are, with a sign or without; none: they are no number's. -/
def valL (l : List UInt8) : Option Int := match Lib.parseIntB 64 l with
  | .ok v => if Lib.itoa v = l then some v else none
  | _ => none
/-- What stands behind an opening quote: the text, and how many bytes it has with its closing quote. -/
def quotL : List UInt8 → Option (List UInt8 × Nat)
  | [] => none
  | c :: r => if c.toNat = 39 then (match r with
      | [] => some ([], 1)
      | d :: q => if d.toNat = 39 then (quotL q).map fun x => (39 :: x.1, x.2 + 2) else some ([], 1))
    else (quotL r).map fun x => (c :: x.1, x.2 + 1)
def mark1 (c : UInt8) : Bool := decide (c.toNat = 44) || decide (c.toNat = 40) || decide (c.toNat = 41) || decide (c.toNat = 42) || decide (c.toNat = 61) || decide (c.toNat = 60) || decide (c.toNat = 62)
def mark2 (c d : UInt8) : Bool := (decide (c.toNat = 60) && (decide (d.toNat = 62) || decide (d.toNat = 61))) || (decide (c.toNat = 62) && decide (d.toNat = 61))
def markL : List UInt8 → Nat
  | [] => 0
  | [c] => if mark1 c then 1 else 0
  | c :: d :: _ => if mark2 c d then 2 else if mark1 c then 1 else 0
structure Tk where
  kind : Int
  s : ByteArray
  n : Int
  at_ : Int
def cTk (t : Tk) : List C := [.v (.int .i64 t.kind), .v (.string t.s), .v (.int .i64 t.n), .v (.int .i64 t.at_)]
abbrev aTk (t : Tk) : A := .agg [.c (.v (.int .i64 t.kind)), .c (.v (.string t.s)), .c (.v (.int .i64 t.n)), .c (.v (.int .i64 t.at_))]
theorem el_Tk0 (t : Tk) : el (cTk t) 0 = .v (.int .i64 t.kind) := rfl
theorem el_Tk1 (t : Tk) : el (cTk t) 1 = .v (.string t.s) := rfl
theorem el_Tk2 (t : Tk) : el (cTk t) 2 = .v (.int .i64 t.n) := rfl
theorem el_Tk3 (t : Tk) : el (cTk t) 3 = .v (.int .i64 t.at_) := rfl
attribute [go_sem] aTk el_Tk0 el_Tk1 el_Tk2 el_Tk3
def tk0 : Tk := ⟨0, ⟨#[]⟩, 0, 0⟩
/-- The token that a text begins with, and how many bytes it has; 0: it begins with none. -/
def oneL : List UInt8 → Tk × Nat
  | [] => (tk0, 0)
  | c :: r =>
    if letC c then (⟨1, ofL ((c :: r).take (runL namC r + 1)), 0, 0⟩, runL namC r + 1)
    else if digC c || decide (c.toNat = 45) then (match valL ((c :: r).take (runL digC r + 1)) with
      | some v => (⟨2, ⟨#[]⟩, v, 0⟩, runL digC r + 1)
      | none => (tk0, 0))
    else if c.toNat = 39 then (match quotL r with
      | some x => (⟨3, ofL x.1, 0, 0⟩, x.2 + 1)
      | none => (tk0, 0))
    else (⟨4, ofL ((c :: r).take (markL (c :: r))), 0, 0⟩, markL (c :: r))
/-- A text's tokens from a place on. -/
def scanL (n : Nat) (l : List UInt8) (i : Nat) (acc : List Tk) : List Tk × Int × Int :=
  match l with
  | [] => (acc ++ [⟨0, ⟨#[]⟩, 0, n⟩], n, 0)
  | c :: r => if blkC c then scanL n r (i + 1) acc
    else if (oneL (c :: r)).2 = 0 then ([], i, 2)
    else scanL n (r.drop ((oneL (c :: r)).2 - 1)) (i + (oneL (c :: r)).2) (acc ++ [⟨(oneL (c :: r)).1.kind, (oneL (c :: r)).1.s, (oneL (c :: r)).1.n, i⟩])
termination_by l.length
decreasing_by
  · simp
  · simp; omega
/-- All of a text's tokens: they, or where none begins. -/
def allT (s : ByteArray) : List Tk × Int × Int := if 400 < s.size then ([], 0, 3) else scanL s.size (bsL s) 0 []
theorem quotL_le : ∀ (l : List UInt8) (x : List UInt8 × Nat), quotL l = some x → x.2 ≤ l.length ∧ ∃ k, x.2 = k + 1 ∧ ∀ c, l[k]? = some c → c.toNat = 39
  | [], x, h => by simp [quotL] at h
  | c :: r, x, h => by
    unfold quotL at h
    by_cases hc : c.toNat = 39
    · rw [if_pos hc] at h
      cases r with
      | nil =>
        obtain rfl := Option.some.inj h
        exact ⟨by simp, 0, rfl, fun d hd => by rw [List.getElem?_cons_zero] at hd; obtain rfl := Option.some.inj hd; exact hc⟩
      | cons d q =>
        simp only at h
        by_cases hd : d.toNat = 39
        · rw [if_pos hd] at h
          obtain ⟨y, hy, rfl⟩ := Option.map_eq_some_iff.1 h
          obtain ⟨h1, k, h2, h3⟩ := quotL_le q y hy
          exact ⟨by simp; omega, k + 2, by simp only [h2], fun e he => h3 e (by simpa using he)⟩
        · rw [if_neg hd] at h
          obtain rfl := Option.some.inj h
          exact ⟨by simp, 0, rfl, fun d hd => by rw [List.getElem?_cons_zero] at hd; obtain rfl := Option.some.inj hd; exact hc⟩
    · rw [if_neg hc] at h
      obtain ⟨y, hy, rfl⟩ := Option.map_eq_some_iff.1 h
      obtain ⟨h1, k, h2, h3⟩ := quotL_le r y hy
      exact ⟨by simp; omega, k + 1, by simp only [h2], fun e he => h3 e (by simpa using he)⟩
theorem markL_le (l : List UInt8) : markL l ≤ l.length := by
  unfold markL
  split
  · exact Nat.le_refl _
  · split <;> simp
  · split
    · simp
    · split <;> simp
theorem low_let {c : UInt8} (h : letC c = true) : c.toNat < 128 := by simp [letC] at h; omega
theorem low_dig {c : UInt8} (h : digC c = true) : c.toNat < 128 := by simp [digC] at h; omega
theorem low_nam {c : UInt8} (h : namC c = true) : c.toNat < 128 := by simp [namC, letC, digC] at h; omega
theorem low_mark {c : UInt8} (h : mark1 c = true) : c.toNat < 128 := by simp [mark1] at h; omega
theorem oneL_cons (c : UInt8) (r : List UInt8) : oneL (c :: r) =
    if letC c then (⟨1, ofL ((c :: r).take (runL namC r + 1)), 0, 0⟩, runL namC r + 1)
    else if digC c || decide (c.toNat = 45) then (match valL ((c :: r).take (runL digC r + 1)) with
      | some v => (⟨2, ⟨#[]⟩, v, 0⟩, runL digC r + 1)
      | none => (tk0, 0))
    else if c.toNat = 39 then (match quotL r with
      | some x => (⟨3, ofL x.1, 0, 0⟩, x.2 + 1)
      | none => (tk0, 0))
    else (⟨4, ofL ((c :: r).take (markL (c :: r))), 0, 0⟩, markL (c :: r)) := rfl
theorem run_low {p : UInt8 → Bool} (hp : ∀ c, p c = true → c.toNat < 128) {c : UInt8} {r : List UInt8} (hc : c.toNat < 128) (k : Nat) (hk : runL p r + 1 = k + 1) (e : UInt8) (he : (c :: r)[k]? = some e) : e.toNat < 128 := by
  cases k with
  | zero => rw [List.getElem?_cons_zero] at he; obtain rfl := Option.some.inj he; exact hc
  | succ k => rw [List.getElem?_cons_succ] at he; exact hp e (runL_last p r k e he (by omega))
theorem mark_low {l : List UInt8} {k : Nat} (hk : markL l = k + 1) {e : UInt8} (he : l[k]? = some e) : e.toNat < 128 := by
  unfold markL at hk
  split at hk
  · cases hk
  · rename_i c
    split at hk
    · rename_i hm
      obtain rfl : k = 0 := by omega
      obtain rfl : c = e := by simpa using he
      exact low_mark hm
    · cases hk
  · rename_i c d q
    split at hk
    · rename_i hm
      obtain rfl : k = 1 := by omega
      obtain rfl : d = e := by simpa using he
      simp [mark2] at hm
      omega
    · split at hk
      · rename_i hm
        obtain rfl : k = 0 := by omega
        obtain rfl : c = e := by simpa using he
        exact low_mark hm
      · cases hk
/-- A token's last byte is below 128, and it is no longer than the text. -/
theorem oneL_le (l : List UInt8) : (oneL l).2 ≤ l.length ∧ ∀ k, (oneL l).2 = k + 1 → ∀ e, l[k]? = some e → e.toNat < 128 := by
  cases l with
  | nil => exact ⟨Nat.le_refl _, fun k h => by cases h⟩
  | cons c r =>
    have hn := runL_le namC r
    have hg := runL_le digC r
    rw [oneL_cons]
    split
    · rename_i hc
      exact ⟨by simp; omega, fun k hk e he => run_low (fun c => low_nam) (low_let hc) k hk e he⟩
    · split
      · rename_i hd
        have hc : c.toNat < 128 := by simp [digC] at hd; omega
        split
        · exact ⟨by simp; omega, fun k hk e he => run_low (fun c => low_dig) hc k hk e he⟩
        · exact ⟨Nat.zero_le _, fun k h => by cases h⟩
      · split
        · split
          · rename_i x hx
            obtain ⟨h1, j, h2, h3⟩ := quotL_le r x hx
            refine ⟨by simp; omega, fun k hk e he => ?_⟩
            have e1 : k = j + 1 := by simp only at hk; omega
            subst e1
            rw [List.getElem?_cons_succ] at he
            have := h3 e he
            omega
          · exact ⟨Nat.zero_le _, fun k h => by cases h⟩
        · exact ⟨markL_le _, fun k hk e he => mark_low hk he⟩

end Go.Proofs.YthinpbnnpelhhaaGreatDoor.V
