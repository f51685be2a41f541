import Derived.Test.YthinpbnnpelhhaaGreatDoorP2
import Derived.Test.YthinpbnnpelhhaaGreatDoorQ2
import Derived.Test.YthinpbnnpelhhaaGreatDoorV24
import Derived.Test.YthinpbnnpelhhaaGreatDoorW5
import Derived.Lib.Join
namespace Go.Proofs.YthinpbnnpelhhaaGreatDoor.V
open Go Go.RowKit Go.Proofs.YthinpbnnpelhhaaGreatDoorW.PrintLast
open Go.Proofs
set_option linter.unusedVariables false
set_option linter.unusedSimpArgs false
attribute [local irreducible] awp
set_option maxRecDepth 100000
/-- A contract out of a walk: two arguments. -/
theorem PC_two {P : Program} {f : FuncId} {fn : Func} {a0 a1 : A} {Q : A → List B → Prop} (hf : P.funcs[f]? = some fn) (h : ∀ (ok : Nat → Prop) (w : World) (u0 u1 : Value), (∀ k, ok k → k < w.heap.size) → RA (RL [] ok w) a0 u0 → RA (RL [] ok w) a1 u1 → Calls P f #[u0, u1] w fun e w' => ∃ v r, e = .returned v ∧ Below w.heap.size w w' ∧ Q r [] ∧ ∀ ok, RA (RL [] ok w') r v)
    (hn : (fn.name == "runtime.NumGoroutine") = false := by kernel_rfl) (hb : fn.body.isSome = true := by kernel_rfl) : PC P f [a0, a1] [] Q := by
  refine ⟨⟨fn, hf, hn, hb⟩, fun ok μ0 w cargs _ hm hl ha => ?_⟩
  have hμ : μ0 = [] := List.eq_nil_of_length_eq_zero hm.len
  subst hμ
  obtain ⟨u0, h1, h2⟩ := ha 0 _ rfl
  obtain ⟨u1, h3, h4⟩ := ha 1 _ rfl
  have hc : cargs = #[u0, u1] := by
    apply Array.ext
    · rw [← hl]; rfl
    · intro i hi1 hi2
      have h0 : i = 0 ∨ i = 1 := by simp at hi2; omega
      rcases h0 with rfl | rfl
      · rw [Array.getElem?_eq_getElem hi1] at h1
        exact Option.some.inj h1
      · rw [Array.getElem?_eq_getElem hi1] at h3
        exact Option.some.inj h3
  subst hc
  refine (h ok w u0 u1 hm.small h2 h4).mono fun e w' ⟨v, r, h1, h2, h3, h4⟩ => ⟨v, r, [], [], ok, h1, h3, h4 ok, ?_, fun g hg => by simp at hg, Fw.of _ h2, fun _ h => h, fun _ h => .inl h⟩
  exact ⟨rfl, fun i j b b' g h => by simp at h, fun i b g h => by simp at h, fun g hg => by simp at hg, fun k hk => Nat.lt_of_lt_of_le (hm.small k hk) h2.size, fun i b g h => by simp at h, hm.gl.keep (fun _ h => h) (fun k hk => h2.block k (hm.small k hk))⟩
theorem spot_none {w : World} {b : Addr} {v : Value} (h : w.cell? b = some v) : b = ⟨b.block, b.off, none⟩ := by
  obtain ⟨k, o, s⟩ := b
  unfold World.cell? at h
  cases s with
  | none => rfl
  | some s =>
    dsimp only at h
    split at h <;> simp at h
theorem c15 (f : Nat → Nat → C) (l : List ByteArray) (sep : ByteArray) (n : Nat) (hn : n = l.length) (hf : ∀ (i : Nat) (h : i < l.length), f i 0 = .v (.string l[i])) (hlen : (Lib.join (l.map (·.data.toList)) sep.data.toList).length ≤ 140737488355328) (hll : l.length ≤ 1000) :
    PC Tryz.prog 15 [.one (.c (.sl n 1 f)), A.str sep] [] (fun r bx => r = A.str (ofL (Lib.join (l.map bsL) (bsL sep))) ∧ bx = []) := by
  subst hn
  refine PC_two Tryz.func15 fun ok w u0 u1 hs h0 h1 => ?_
  obtain ⟨a, cap, rfl, ⟨hcap, _⟩, hc⟩ := h0
  obtain rfl : u1 = .string sep := h1
  cases hl : l with
  | nil =>
    subst hl
    exact (Tryz.strings_Join_none a cap sep w).mono fun e w' ⟨he, hw⟩ => ⟨_, _, he, by rw [hw]; exact Below.refl _ _, ⟨rfl, rfl⟩, fun ok => rfl⟩
  | cons x r =>
    rw [← hl]
    have hpos : 0 < l.length := by rw [hl]; simp
    obtain ⟨b, v, rfl, hok, hcell, _⟩ := hc 0 hpos 0 (by omega)
    have hb := spot_none (b := b) (by rw [Nat.zero_mul, add_zero] at hcell; exact hcell)
    obtain ⟨bk, o, s⟩ := b
    dsimp only at hb hok
    obtain rfl : s = none := by injection hb
    refine (Tryz.strings_Join bk o cap l sep w ?_ (hs _ hok) (by omega) hcap hlen).mono fun e w' ⟨he, hw⟩ => ⟨_, _, he, hw, ⟨rfl, rfl⟩, fun ok => rfl⟩
    intro j y hj
    obtain ⟨hjl, rfl⟩ := List.getElem?_eq_some_iff.1 hj
    obtain ⟨b2, v2, e2, _, hcell2, hr2⟩ := hc j hjl 0 (by omega)
    obtain rfl := Option.some.inj e2
    rw [hf j hjl] at hr2
    obtain rfl : v2 = .string l[j] := hr2
    rw [add_lit, Nat.mul_one, Nat.add_zero] at hcell2
    exact hcell2
/-- Are the numbers of a predicate, and of all within it, numbers of 64 bits? -/
inductive Rg : Pr → Prop
  | mk (p : Pr) (h0 : -9223372036854775808 ≤ p.val.i) (h1 : p.val.i ≤ 9223372036854775807) (h : ∀ x ∈ p.kids, Rg x) : Rg p
theorem Rg.lo {p : Pr} (h : Rg p) : -9223372036854775808 ≤ p.val.i := by cases h; assumption
theorem Rg.hi {p : Pr} (h : Rg p) : p.val.i ≤ 9223372036854775807 := by cases h; assumption
theorem Rg.kid {p : Pr} (h : Rg p) : ∀ x ∈ p.kids, Rg x := by cases h; assumption
theorem quoS_len (s : ByteArray) (h : s.size ≤ 100) : (bsL (quoS s)).length ≤ 202 := by
  have h1 := escL_len (bsL s)
  have h2 := len_bsL s
  show (39 :: (escL (bsL s) ++ [39])).length ≤ 202
  simp
  omega
theorem valS_len (ty : Int) (c : Ce) (h : c.s.size ≤ 100) (h0 : -9223372036854775808 ≤ c.i) (h1 : c.i ≤ 9223372036854775807) : (valS ty c).length ≤ 202 := by
  have h2 := quoS_len c.s h
  have h3 := Lib.itoa_length_le c.i h0 h1
  unfold valS
  repeat' split
  all_goals first | omega | (simp; done)
theorem signL_len (m : Int) : (signL m).length ≤ 2 := by
  unfold signL
  repeat' split
  all_goals simp
theorem parL_len (op ko : Int) (t : List UInt8) : (parL op ko t).length ≤ t.length + 2 := by
  unfold parL
  split
  · simp
  · omega
theorem joinTail_len (op : Int) : ∀ (l : List Pr), (∀ x ∈ l, (txP x).length ≤ 400 * x.cnt) → (Lib.joinTail (sepL op) (l.map fun k => parL op k.op (txP k))).length ≤ 400 * cnts l + 7 * l.length
  | [], _ => by simp [Lib.joinTail]
  | x :: r, h => by
    have h1 := joinTail_len op r fun y hy => h y (by simp [hy])
    have h2 := parL_len op x.op (txP x)
    have h3 := h x (by simp)
    have h4 : (sepL op).length ≤ 5 := by unfold sepL; split <;> simp
    simp only [Lib.joinTail, List.map_cons, List.flatten_cons, List.length_append, cnts, List.length_cons] at h1 ⊢
    simp only [List.map_map] at h1 ⊢
    omega
theorem txP_len : ∀ p : Pr, Sm p → Rg p → (txP p).length ≤ 400 * p.cnt := by
  refine Pr.by_kids fun p ih hs hr => ?_
  have h1 := valS_len p.kind p.val hs.val hr.lo hr.hi
  have h2 := quoS_len p.pat hs.pat
  have h3 := signL_len p.cmp
  have h4 := len_bsL p.col
  have h5 := hs.col
  have h6 := hs.len
  have h7 := cnt_eq p
  have hj : (Lib.join (p.kids.map fun k => parL p.op k.op (txP k)) (sepL p.op)).length ≤ 400 * cnts p.kids + 7 * p.kids.length := by
    have hk : ∀ x ∈ p.kids, (txP x).length ≤ 400 * x.cnt := fun x hx => ih x hx (hs.kid x hx) (hr.kid x hx)
    cases hl : p.kids with
    | nil => rw [List.map_nil, Lib.join_nil]; simp
    | cons x r =>
      rw [hl] at hk
      have e1 := joinTail_len p.op r fun y hy => hk y (by simp [hy])
      have e2 := parL_len p.op x.op (txP x)
      have e3 := hk x (by simp)
      rw [List.map_cons, Lib.join_cons, List.length_append, cnts, List.length_cons]
      omega
  rw [txP_eq]
  repeat' split
  all_goals simp only [List.length_append, List.length_cons, List.length_nil]
  all_goals omega

end Go.Proofs.YthinpbnnpelhhaaGreatDoor.V
