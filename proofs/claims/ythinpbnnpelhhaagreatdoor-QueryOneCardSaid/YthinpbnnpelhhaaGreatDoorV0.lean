import Derived.Below
import Derived.Deep.Draws
import Derived.Deep.AppendLies
import Derived.Maps.AppendAt
import Derived.OwnWalk
import Derived.Laws.BytesArg
import Derived.Laws.MakeOwn
import Derived.Laws.OwnMore
import Derived.Deep.OwnRows
import Derived.Tactics
import Derived.Lib.ConvBytes
import Derived.Laws.Slices
import Derived.WalkKit
import Derived.KernelRfl
import Derived.RowKit3
import Derived.Deep.LoopGhost
import Derived.Deep.QuietTactic
import Derived.BigQuiet
import Derived.WideLaws
import Derived.Deep.DeepCutAuto
import Derived.Deep.CutBlock
import Derived.Deep.RegionHeld3
import Derived.Laws.Rows
import Derived.Lib.AppendStr
import Derived.ArgAppend
import Derived.Laws.IdiomCopy
import Derived.OrdersHeld
import Derived.Laws.BitsLemmas
import Derived.RowKit
import Derived.Laws.Cover1
import Derived.Shelf.Abstract

import Derived.Test.YthinpbnnpelhhaaGreatDoorWLast
import Derived.Test.YthinpbnnpelhhaaGreatDoorWTab
import Derived.Test.YthinpbnnpelhhaaGreatDoorProg
import Derived.Lib.LaidTab
import Derived.Lib.ItoaNum
namespace Go.Proofs.YthinpbnnpelhhaaGreatDoor.V
open Go Go.RowKit Go.Proofs.YthinpbnnpelhhaaGreatDoorW.PrintLast
set_option linter.unusedVariables false
set_option linter.unusedSimpArgs false
/-! What is known of the package variables, and never turns. -/
--ALSO Derived.Lib.LaidTab Derived.Lib.ItoaNum
def glIds : List Nat := [0, 1]
def Start (w : World) : Prop := Lib.TabIs Tryz.prog w "internal/strconv.uint64pow10" .u64 Lib.pow10Tab ∧ True ∧ True ∧ (∃ m : Int, w.cell? ⟨0, 0, none⟩ = some (.int .i64 m))
/-- The package variables' blocks are as they were in a world that is laid, and are never written again. -/
def Gl (ok : Nat → Prop) (w : World) : Prop := ∃ w0, Start w0 ∧ ∀ g, g ∈ glIds → ok g ∧ w.heap[g]? = w0.heap[g]?
theorem Gl.keep {ok ok' : Nat → Prop} {w w' : World} (h : Gl ok w) (hk : ∀ k, ok k → ok' k) (hw : ∀ k, ok k → w'.heap[k]? = w.heap[k]?) : Gl ok' w' := by
  obtain ⟨w0, h1, h2⟩ := h
  exact ⟨w0, h1, fun g hg => ⟨hk _ (h2 g hg).1, (hw _ (h2 g hg).1).trans (h2 g hg).2⟩⟩
end Go.Proofs.YthinpbnnpelhhaaGreatDoor.V
