import Derived.Test.YtdedmhmomoejkaaDoorS2
import Derived.Test.YtdedmhmomoejkaaDoorSh
import Derived.Lib.AppendIntMem
import Derived.Lib.SmallJoins
namespace Go.Proofs.YtdedmhmomoejkaaDoor.V
open Go Go.RowKit Go.Proofs.YtdedmhmomoejkaaDoorW.PrintLast
open Go.Proofs
set_option linter.unusedVariables false
set_option linter.unusedSimpArgs false
attribute [local irreducible] awp
/-! The library's functions that words need. -/
theorem gl_var {w w0 : World} (hg : ∀ g, g ∈ glIds → w.heap[g]? = w0.heap[g]?) {n : String} {g : Nat} (hn : Tryd.prog.globalNamed n = some g) (hi : g ∈ glIds) : w.var? Tryd.prog n = w0.var? Tryd.prog n := by
  unfold World.var?
  rw [hn]
  simp only [Option.bind_some, hg g hi]
theorem c167 (n : Int) (h0 : -9223372036854775808 ≤ n) (h1 : n ≤ 9223372036854775807) : PC Tryd.prog 167 [A.int .i64 n, A.int .i64 10] [] (fun r bx => r = A.str (ofL (Lib.itoa n)) ∧ bx = []) :=
  PC_valG [.int .i64 n, .int .i64 10] (.string (ofL (Lib.itoa n))) Tryd.func167 fun w w0 hs hg =>
    (Tryd.strconv_FormatInt_10 n h0 h1 w (by unfold Lib.TabIs; rw [gl_var hg (g := 1) (by kernel_rfl) (by decide)]; exact hs.1)).mono fun e w' ⟨h, k, os, e2⟩ => ⟨h, by subst e2; exact Lib.below_grow _ w (Nat.le_refl _) k os⟩
theorem c147 (s : ByteArray) (hs : s.size ≤ 1000) : PC Tryd.prog 147 [A.str s, A.int .i64 10, A.int .i64 64] [] (fun r bx => bx = [] ∧ ((∃ v, Lib.parseIntB 64 (bsL s) = .ok v ∧ r = .tup [([xI v], false), ([.c (.v .nilIface)], false)]) ∨ ((∀ v, Lib.parseIntB 64 (bsL s) ≠ .ok v) ∧ ∃ n, r = .tup [([xI n], false), ([.c .ifc], false)]))) := by
  refine PC_libG [.string s, .int .i64 10, .int .i64 64] Tryd.func147 fun w w0 hst hg => ?_
  rcases hp : Lib.parseIntB 64 (bsL s) with v | _ | _
  · refine (Tryd.strconv_ParseInt_10_at64_ok s (by omega) v hp w).mono fun e w' ⟨h, h2⟩ => ⟨_, .tup [([xI v], false), ([.c (.v .nilIface)], false)], h, ?_, ⟨rfl, .inl ⟨v, rfl, rfl⟩⟩, fun ok => RA_pair rfl rfl⟩
    rcases h2 with rfl | ⟨t, rfl⟩
    · exact Below.refl _ _
    · exact Joins.below_bytesWorld _ w 5 t (Nat.le_refl _)
  · obtain ⟨tp, p, hv⟩ := hst.2.1
    exact (Any.strconv_ParseInt_10_at64_syntax_var Tryd.laysC174 s (by omega) hp tp p w (by rw [gl_var hg (g := 4) (by kernel_rfl) (by decide)]; exact hv)).mono fun e w' ⟨N, h, _, _, h2⟩ => ⟨_, .tup [([xI 0], false), ([.c .ifc], false)], h, h2, ⟨rfl, .inr ⟨fun v h => (nomatch h), 0, rfl⟩⟩, fun ok => RA_pair rfl ⟨_, _, rfl⟩⟩
  · obtain ⟨tp, p, hv⟩ := hst.2.2
    exact (Tryd.strconv_ParseInt_10_at64_range_var s (by omega) hp tp p w (by rw [gl_var hg (g := 5) (by kernel_rfl) (by decide)]; exact hv)).mono fun e w' ⟨N, h, _, _, h2⟩ => ⟨_, .tup [([xI (Lib.intSat 64 (bsL s))], false), ([.c .ifc], false)], h, h2, ⟨rfl, .inr ⟨fun v h => (nomatch h), _, rfl⟩⟩, fun ok => RA_pair rfl ⟨_, _, rfl⟩⟩
theorem c151 (s p : ByteArray) : PC Tryd.prog 151 [A.str s, A.str p] [] (fun r bx => r = A.bool (Lib.hasPrefix (bsL s) (bsL p)) ∧ bx = []) :=
  PC_val [.string s, .string p] (.bool (Lib.hasPrefix (bsL s) (bsL p))) Tryd.func151 fun w => (Tryd.strings_HasPrefix s p w).mono fun e w' ⟨h, h2⟩ => ⟨h, by rw [h2]; exact Below.refl _ _⟩
theorem c148 (n : Int) (h0 : -9223372036854775808 ≤ n) (h1 : n ≤ 9223372036854775807) : PC Tryd.prog 148 [A.int .i64 n] [] (fun r bx => r = A.str (ofL (Lib.itoa n)) ∧ bx = []) := by
  refine enter (rs := [.tmp 2]) mx Tryd.func148 Tryd.ntmps148 fun Q0 hQ0 => ?_
  refine sq fun _ _ => ?_
  refine rg (sg ?_)
  refine nx ?_
  refine sq fun _ _ => ?_
  refine rg (sg ?_)
  refine cl [] (sg ?_)
  refine (c167 _ (by first | assumption | omega | trivial | rfl) (by first | assumption | omega | trivial | rfl)).mono ?_
  rintro r bx ⟨rfl, rfl⟩
  refine sg ?_
  refine nx ?_
  refine rt ?_
  refine f1 (g := sg ?_)
  exact ax [] ⟨rfl, rfl⟩

end Go.Proofs.YtdedmhmomoejkaaDoor.V
