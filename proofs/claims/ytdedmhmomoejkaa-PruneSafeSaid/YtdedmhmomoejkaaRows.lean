/-
  NARROWER THAN 'FOR EVERY INPUT', by the rows' own cells (each row's printed sentence says how): PruneAsks: loops · PruneSafe: loops · PruneNot: loops · EvalNots: loops · EvalJoins: loops · EvalRows: loops.
  DERIVED. THE GIVEN ROWS OF THIS SEAT. 6 by the template 'for every input the law returns true; each argument reads behind the call as it read before'; 0 by the template 'total and deterministic' (their statements: YtdedmhmomoejkaaTotals.lean).
  GIVEN WITH THE SEED: the statements are not yours to turn. If you find one false, say at which input.
  Laid BY PROGRAM, IN A SANDBOX (cutbox-rows.mjs): the forced cells as the released guide's own fill.sh prints them over the translation 9f07434075d433c8… (all of the seat's roots in one cut). By AI agents, Wed Nov 11 2026. No macro, syntax, notation, axiom, sorry.
-/
import Derived.Test.YtdedmhmomoejkaaChecked
import GoSem.Claim
import GoSem.ClaimJoined
import GoSem.ClaimMapViews
import Derived.JoinedTies
import Derived.KernelRfl
namespace Go.Proofs.Ytdedmhmomoejkaa
/- THE CELL 'sum', in the pinned program and in every row, IS THE sha256 OF THE DUMP (.gsa) THAT YtdedmhmomoejkaaProg.lean LOADS. Nothing in Lean hashes anything: it is a label: what it is worth is what the hold of that sum in a sandbox is worth. -/
noncomputable def Try.pinned : Pinned := { name := "ytdedmhmomoejkaa", sum := "9f07434075d433c89ed99a0d168763a519df074e77da3cc16fa9b0e484cd6f4f", checked := Try.checked }
namespace Rows
def none {H : Type} : Left H := { results := [], args := [] }

/-- 'firkinlaw21.PruneAsks': WHATEVER THE INPUT: true; the input reads as it did. -/
def pruneAsksSpec : ChangeSpec := { name := "pruneAsks", fn := fun _ => fun
  | [d1, d2, d3] => { results := [.lit (.bool true)], args := [d1, d2, d3] }
  | _ => none }
def pruneAsksRow : OpenClaim := { program := "ytdedmhmomoejkaa", sum := "9f07434075d433c89ed99a0d168763a519df074e77da3cc16fa9b0e484cd6f4f", func := "firkin/firkinlaw21.PruneAsks", spec := "pruneAsks", unfollowed := true, recurses := true, loops := true, apart := false }
def PruneAsksSaid : Prop := pruneAsksRow.holds Try.pinned (OpenSpec.ofChange pruneAsksSpec)

/-- ITS FALSE NEIGHBOUR: 'it returns false'. Refute it at one input. -/
def pruneAsksWrong : ChangeSpec := { name := "pruneAsks", fn := fun _ => fun
  | [d1, d2, d3] => { results := [.lit (.bool false)], args := [d1, d2, d3] }
  | _ => none }
def PruneAsksWrongFalsely : Prop := pruneAsksRow.holds Try.pinned (OpenSpec.ofChange pruneAsksWrong)

/-- 'firkinlaw21.PruneSafe': WHATEVER THE INPUT: true; the input reads as it did. -/
def pruneSafeSpec : ChangeSpec := { name := "pruneSafe", fn := fun _ => fun
  | [d1, d2, d3] => { results := [.lit (.bool true)], args := [d1, d2, d3] }
  | _ => none }
def pruneSafeRow : OpenClaim := { program := "ytdedmhmomoejkaa", sum := "9f07434075d433c89ed99a0d168763a519df074e77da3cc16fa9b0e484cd6f4f", func := "firkin/firkinlaw21.PruneSafe", spec := "pruneSafe", unfollowed := true, recurses := true, loops := true, apart := false }
def PruneSafeSaid : Prop := pruneSafeRow.holds Try.pinned (OpenSpec.ofChange pruneSafeSpec)

/-- ITS FALSE NEIGHBOUR: 'it returns false'. Refute it at one input. -/
def pruneSafeWrong : ChangeSpec := { name := "pruneSafe", fn := fun _ => fun
  | [d1, d2, d3] => { results := [.lit (.bool false)], args := [d1, d2, d3] }
  | _ => none }
def PruneSafeWrongFalsely : Prop := pruneSafeRow.holds Try.pinned (OpenSpec.ofChange pruneSafeWrong)

/-- 'firkinlaw21.PruneNot': WHATEVER THE INPUT: true; the input reads as it did. -/
def pruneNotSpec : ChangeSpec := { name := "pruneNot", fn := fun _ => fun
  | [d1, d2, d3] => { results := [.lit (.bool true)], args := [d1, d2, d3] }
  | _ => none }
def pruneNotRow : OpenClaim := { program := "ytdedmhmomoejkaa", sum := "9f07434075d433c89ed99a0d168763a519df074e77da3cc16fa9b0e484cd6f4f", func := "firkin/firkinlaw21.PruneNot", spec := "pruneNot", unfollowed := true, recurses := true, loops := true, apart := false }
def PruneNotSaid : Prop := pruneNotRow.holds Try.pinned (OpenSpec.ofChange pruneNotSpec)

/-- ITS FALSE NEIGHBOUR: 'it returns false'. Refute it at one input. -/
def pruneNotWrong : ChangeSpec := { name := "pruneNot", fn := fun _ => fun
  | [d1, d2, d3] => { results := [.lit (.bool false)], args := [d1, d2, d3] }
  | _ => none }
def PruneNotWrongFalsely : Prop := pruneNotRow.holds Try.pinned (OpenSpec.ofChange pruneNotWrong)

/-- 'firkinlaw20.EvalNots': WHATEVER THE INPUT: true; the input reads as it did. -/
def evalNotsSpec : ChangeSpec := { name := "evalNots", fn := fun _ => fun
  | [d1, d2, d3] => { results := [.lit (.bool true)], args := [d1, d2, d3] }
  | _ => none }
def evalNotsRow : OpenClaim := { program := "ytdedmhmomoejkaa", sum := "9f07434075d433c89ed99a0d168763a519df074e77da3cc16fa9b0e484cd6f4f", func := "firkin/firkinlaw20.EvalNots", spec := "evalNots", unfollowed := true, recurses := true, loops := true, apart := false }
def EvalNotsSaid : Prop := evalNotsRow.holds Try.pinned (OpenSpec.ofChange evalNotsSpec)

/-- ITS FALSE NEIGHBOUR: 'it returns false'. Refute it at one input. -/
def evalNotsWrong : ChangeSpec := { name := "evalNots", fn := fun _ => fun
  | [d1, d2, d3] => { results := [.lit (.bool false)], args := [d1, d2, d3] }
  | _ => none }
def EvalNotsWrongFalsely : Prop := evalNotsRow.holds Try.pinned (OpenSpec.ofChange evalNotsWrong)

/-- 'firkinlaw20.EvalJoins': WHATEVER THE INPUT: true; the input reads as it did. -/
def evalJoinsSpec : ChangeSpec := { name := "evalJoins", fn := fun _ => fun
  | [d1, d2, d3] => { results := [.lit (.bool true)], args := [d1, d2, d3] }
  | _ => none }
def evalJoinsRow : OpenClaim := { program := "ytdedmhmomoejkaa", sum := "9f07434075d433c89ed99a0d168763a519df074e77da3cc16fa9b0e484cd6f4f", func := "firkin/firkinlaw20.EvalJoins", spec := "evalJoins", unfollowed := true, recurses := true, loops := true, apart := false }
def EvalJoinsSaid : Prop := evalJoinsRow.holds Try.pinned (OpenSpec.ofChange evalJoinsSpec)

/-- ITS FALSE NEIGHBOUR: 'it returns false'. Refute it at one input. -/
def evalJoinsWrong : ChangeSpec := { name := "evalJoins", fn := fun _ => fun
  | [d1, d2, d3] => { results := [.lit (.bool false)], args := [d1, d2, d3] }
  | _ => none }
def EvalJoinsWrongFalsely : Prop := evalJoinsRow.holds Try.pinned (OpenSpec.ofChange evalJoinsWrong)

/-- 'firkinlaw20.EvalRows': WHATEVER THE INPUT: true; the input reads as it did. -/
def evalRowsSpec : ChangeSpec := { name := "evalRows", fn := fun _ => fun
  | [d1, d2, d3] => { results := [.lit (.bool true)], args := [d1, d2, d3] }
  | _ => none }
def evalRowsRow : OpenClaim := { program := "ytdedmhmomoejkaa", sum := "9f07434075d433c89ed99a0d168763a519df074e77da3cc16fa9b0e484cd6f4f", func := "firkin/firkinlaw20.EvalRows", spec := "evalRows", unfollowed := true, recurses := true, loops := true, apart := false }
def EvalRowsSaid : Prop := evalRowsRow.holds Try.pinned (OpenSpec.ofChange evalRowsSpec)

/-- ITS FALSE NEIGHBOUR: 'it returns false'. Refute it at one input. -/
def evalRowsWrong : ChangeSpec := { name := "evalRows", fn := fun _ => fun
  | [d1, d2, d3] => { results := [.lit (.bool false)], args := [d1, d2, d3] }
  | _ => none }
def EvalRowsWrongFalsely : Prop := evalRowsRow.holds Try.pinned (OpenSpec.ofChange evalRowsWrong)

/- THE SECOND FORM. 'bulk': how many values and letters a reading holds, each counted each time it is reached (what is shared counts as often as it is met; a slice's spare places count too). A statement '..UptoSaid' is the law's where the arguments, and the package variables that the reading takes, are together of bulk at most 1048576: NARROWER than '..Said'. Prove '..Said' where nothing that the law and all that it calls make is longer than what came in: it says more and counts as full. Else prove '..UptoSaid'. A law counts once. -/
mutual
def uptoBulk {H : Type} : DataW H → Nat
  | .lit (.string bytes) => bytes.length + 1
  | .lit _ => 1
  | .nil => 1
  | .ptr d => uptoBulk d + 1
  | .slice elems spare => uptoBulkAll elems + uptoBulkAll spare + 1
  | .agg parts => uptoBulkAll parts + 1
  | .iface _ d => uptoBulk d + 1
  | .map entries => uptoBulkEntries entries + 1
  | .held _ => 1
def uptoBulkAll {H : Type} : List (DataW H) → Nat
  | [] => 0
  | d :: r => uptoBulk d + uptoBulkAll r
def uptoBulkEntries {H : Type} : List (Lit × DataW H) → Nat
  | [] => 0
  | x :: r => uptoBulkEntry x + uptoBulkEntries r
def uptoBulkEntry {H : Type} : Lit × DataW H → Nat
  | (.string bytes, d) => bytes.length + uptoBulk d + 1
  | (_, d) => uptoBulk d + 1
 end
def uptoSmall : (H : Type) → List (DataW H) → Bool := fun _ ds => decide (uptoBulkAll ds ≤ 1048576)
def OpenSpec.upto (s : _root_.Go.ChangeSpec) : _root_.Go.OpenSpec := { _root_.Go.OpenSpec.ofChange s with cond := some uptoSmall }

/-- 'firkinlaw21.PruneAsks', WHERE WHAT IT READS IS OF BULK AT MOST 1048576: true; the input reads as it did. -/
def pruneAsksUptoRow : OpenClaim := { program := "ytdedmhmomoejkaa", sum := "9f07434075d433c89ed99a0d168763a519df074e77da3cc16fa9b0e484cd6f4f", func := "firkin/firkinlaw21.PruneAsks", spec := "pruneAsks", unfollowed := true, recurses := true, loops := true, apart := false, narrowed := true }
def PruneAsksUptoSaid : Prop := pruneAsksUptoRow.holds Try.pinned (OpenSpec.upto pruneAsksSpec)

/-- 'firkinlaw21.PruneSafe', WHERE WHAT IT READS IS OF BULK AT MOST 1048576: true; the input reads as it did. -/
def pruneSafeUptoRow : OpenClaim := { program := "ytdedmhmomoejkaa", sum := "9f07434075d433c89ed99a0d168763a519df074e77da3cc16fa9b0e484cd6f4f", func := "firkin/firkinlaw21.PruneSafe", spec := "pruneSafe", unfollowed := true, recurses := true, loops := true, apart := false, narrowed := true }
def PruneSafeUptoSaid : Prop := pruneSafeUptoRow.holds Try.pinned (OpenSpec.upto pruneSafeSpec)

/-- 'firkinlaw21.PruneNot', WHERE WHAT IT READS IS OF BULK AT MOST 1048576: true; the input reads as it did. -/
def pruneNotUptoRow : OpenClaim := { program := "ytdedmhmomoejkaa", sum := "9f07434075d433c89ed99a0d168763a519df074e77da3cc16fa9b0e484cd6f4f", func := "firkin/firkinlaw21.PruneNot", spec := "pruneNot", unfollowed := true, recurses := true, loops := true, apart := false, narrowed := true }
def PruneNotUptoSaid : Prop := pruneNotUptoRow.holds Try.pinned (OpenSpec.upto pruneNotSpec)

/-- 'firkinlaw20.EvalNots', WHERE WHAT IT READS IS OF BULK AT MOST 1048576: true; the input reads as it did. -/
def evalNotsUptoRow : OpenClaim := { program := "ytdedmhmomoejkaa", sum := "9f07434075d433c89ed99a0d168763a519df074e77da3cc16fa9b0e484cd6f4f", func := "firkin/firkinlaw20.EvalNots", spec := "evalNots", unfollowed := true, recurses := true, loops := true, apart := false, narrowed := true }
def EvalNotsUptoSaid : Prop := evalNotsUptoRow.holds Try.pinned (OpenSpec.upto evalNotsSpec)

/-- 'firkinlaw20.EvalJoins', WHERE WHAT IT READS IS OF BULK AT MOST 1048576: true; the input reads as it did. -/
def evalJoinsUptoRow : OpenClaim := { program := "ytdedmhmomoejkaa", sum := "9f07434075d433c89ed99a0d168763a519df074e77da3cc16fa9b0e484cd6f4f", func := "firkin/firkinlaw20.EvalJoins", spec := "evalJoins", unfollowed := true, recurses := true, loops := true, apart := false, narrowed := true }
def EvalJoinsUptoSaid : Prop := evalJoinsUptoRow.holds Try.pinned (OpenSpec.upto evalJoinsSpec)

/-- 'firkinlaw20.EvalRows', WHERE WHAT IT READS IS OF BULK AT MOST 1048576: true; the input reads as it did. -/
def evalRowsUptoRow : OpenClaim := { program := "ytdedmhmomoejkaa", sum := "9f07434075d433c89ed99a0d168763a519df074e77da3cc16fa9b0e484cd6f4f", func := "firkin/firkinlaw20.EvalRows", spec := "evalRows", unfollowed := true, recurses := true, loops := true, apart := false, narrowed := true }
def EvalRowsUptoSaid : Prop := evalRowsUptoRow.holds Try.pinned (OpenSpec.upto evalRowsSpec)

end Rows
end Go.Proofs.Ytdedmhmomoejkaa
