import Derived.Test.YthinpbnnpelhhaaGreatDoorW10
namespace Go.Proofs.YthinpbnnpelhhaaGreatDoor.V
open Go Go.RowKit Go.Proofs.YthinpbnnpelhhaaGreatDoorW.PrintLast
open Go.Proofs
set_option linter.unusedVariables false
set_option linter.unusedSimpArgs false
attribute [local irreducible] awp
set_option maxRecDepth 100000
theorem scanL_nil (n i : Nat) (acc : List Tk) : scanL n [] i acc = (acc ++ [⟨0, ⟨#[]⟩, 0, n⟩], (n : Int), 0) := by
  rw [scanL]
theorem scanL_cons (n : Nat) (c : UInt8) (r : List UInt8) (i : Nat) (acc : List Tk) : scanL n (c :: r) i acc = if blkC c then scanL n r (i + 1) acc
    else if (oneL (c :: r)).2 = 0 then ([], (i : Int), 2)
    else scanL n ((c :: r).drop (oneL (c :: r)).2) (i + (oneL (c :: r)).2) (acc ++ [⟨(oneL (c :: r)).1.kind, (oneL (c :: r)).1.s, (oneL (c :: r)).1.n, i⟩]) := by
  rw [scanL]
  split
  · rfl
  · split
    · rfl
    · rename_i h
      obtain ⟨k, hk⟩ : ∃ k, (oneL (c :: r)).2 = k + 1 := ⟨_ - 1, (Nat.succ_pred_eq_of_ne_zero h).symm⟩
      rw [hk]
      rfl
/-- Tokens as a row; none: nil. -/
def rT (l : List Tk) : C := if l = [] then .v (.slice none 0 0) else rowA 4 cTk l
/-- The end of a function with three results, the first of which is an own row. -/
theorem axr3 {α : Type} {Q : A → List B → Prop} {σ : St} {id sz n e : Nat} {ls ls2 : List L} {g g2 : Bool} (f : α → List C) (out : List α) (h : Q (.tup [([.c (rowA sz f out)], false), (ls.map (subL σ.bx (pos (σ.ids []))), g), (ls2.map (subL σ.bx (pos (σ.ids []))), g2)]) ((σ.ids []).map fun i => mapB (subL σ.bx (pos (σ.ids []))) (σ.bx.getD i .hid))) (hb : σ.bx[id]? = some (.arr (out.map fun x => lc (f x)) sz e) := by exact rfl) (hn : out.length = n := by first | rfl | omega | (simp; done)) (hp : pos (σ.ids []) id = none := by exact rfl) (hg : σ.good [] := by simp [St.good, St.ids, upto]) : aexit Q σ (.tup [([.own id sz 0 n], false), (ls, g), (ls2, g2)]) := by
  refine ax [] ?_ hg
  have e : mapA (subL σ.bx (pos (σ.ids []))) (.tup [([.own id sz 0 n], false), (ls, g), (ls2, g2)]) = .tup [([.c (rowA sz f out)], false), (ls.map (subL σ.bx (pos (σ.ids []))), g), (ls2.map (subL σ.bx (pos (σ.ids []))), g2)] := by
    simp only [mapA, subL, hp, List.map_cons, List.map_nil, viewR f out hb hn]
  rw [e]
  exact h
end Go.Proofs.YthinpbnnpelhhaaGreatDoor.V
