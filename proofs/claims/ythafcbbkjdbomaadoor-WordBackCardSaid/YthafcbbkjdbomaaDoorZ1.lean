import Derived.Test.YthafcbbkjdbomaaDoorV22
import Derived.Test.YthafcbbkjdbomaaDoorTie
import Derived.Test.YthafcbbkjdbomaaDoorCards
import Derived.WalkKit
import Derived.ProofKit
import Derived.Handy
import Derived.Lay
import Derived.SevenTiedAt
namespace Go.Proofs.YthafcbbkjdbomaaDoor.V
open Go Go.RowKit Go.Proofs.YthafcbbkjdbomaaDoorW.PrintLast
open Go.Proofs
set_option linter.unusedVariables false
set_option linter.unusedSimpArgs false
attribute [local irreducible] awp
open Go.ChangeShapes Go.WideShapes Go.ChangeAt
theorem PC.told {P : Program} {f : FuncId} {args : List A} {t : Bool} (h : PC P f args [] (fun r bx => r = .one (.c (.v (.bool t))) ∧ bx = [])) (w : World) (cargs : Array Value) (hs : Start w) (hg : ∀ g, g ∈ glIds → g < w.heap.size) (hl : args.length = cargs.size)
    (ha : ∀ (j : Nat) a, args[j]? = some a → ∃ v, cargs[j]? = some v ∧ RA (RL [] (fun k => k < w.heap.size) w) a v) :
    Calls P f cargs w fun e w' => e = .returned (.bool t) ∧ Below w.heap.size w w' := by
  have hm : Mem [] (fun k => k < w.heap.size) [] w := ⟨rfl, fun i j b b' g h _ _ _ _ _ => by simp at h, fun i b g h => by simp at h, fun g h => (nomatch h), fun k h => h, fun i b g h => by simp at h, ⟨w, hs, fun g h => ⟨hg g h, rfl⟩⟩⟩
  refine (h.2 _ [] w cargs (fun b h => by cases h) hm hl ha).mono fun e w' ⟨cv, r, bx, ν, ok', he, ⟨hr, hb⟩, hR, hM, hν, hF, _⟩ => ?_
  subst hr
  have hcv : cv = .bool t := hR
  subst hcv
  exact ⟨he, hF.below⟩
theorem own : ownKnob Tryd.prog.godebug = none := by kernel_rfl


end Go.Proofs.YthafcbbkjdbomaaDoor.V
