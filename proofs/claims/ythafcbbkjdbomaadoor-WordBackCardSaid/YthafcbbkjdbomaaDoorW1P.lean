import Derived.Test.YthafcbbkjdbomaaDoorW1
namespace Go.Proofs.YthafcbbkjdbomaaDoor.V
open Go Go.RowKit Go.Proofs.YthafcbbkjdbomaaDoorW.PrintLast
open Go.Proofs
set_option linter.unusedVariables false
set_option linter.unusedSimpArgs false
attribute [local irreducible] awp
theorem c79 (s : ByteArray) (hs : s.size ≤ 1000) : PC Tryd.prog 79 [A.str s, A.int .i64 10, A.int .i64 64] [] (fun r bx => bx = [] ∧ ((∃ v, Lib.parseIntB 64 (bsL s) = .ok v ∧ r = .tup [([xI v], false), ([.c (.v .nilIface)], false)]) ∨ ((∀ v, Lib.parseIntB 64 (bsL s) ≠ .ok v) ∧ ∃ n, r = .tup [([xI n], false), ([.c .ifc], false)]))) := by
  refine PC_libG [.string s, .int .i64 10, .int .i64 64] Tryd.func79 fun w w0 hst hg => ?_
  rcases hp : Lib.parseIntB 64 (bsL s) with v | _ | _
  · refine (Tryd.strconv_ParseInt_10_at64_ok s (by omega) v hp w).mono fun e w' ⟨h, h2⟩ => ⟨_, .tup [([xI v], false), ([.c (.v .nilIface)], false)], h, ?_, ⟨rfl, .inl ⟨v, rfl, rfl⟩⟩, fun ok => RA_pair rfl rfl⟩
    rcases h2 with rfl | ⟨t, rfl⟩
    · exact Below.refl _ _
    · exact Joins.below_bytesWorld _ w 5 t (Nat.le_refl _)
  · obtain ⟨tp, p, hv⟩ := hst.2.1
    exact (Any.strconv_ParseInt_10_at64_syntax_var Tryd.laysC174 s (by omega) hp tp p w (by rw [gl_var hg (g := 4) (by kernel_rfl) (by decide)]; exact hv)).mono fun e w' ⟨N, h, _, _, h2⟩ => ⟨_, .tup [([xI 0], false), ([.c .ifc], false)], h, h2, ⟨rfl, .inr ⟨fun v h => (nomatch h), 0, rfl⟩⟩, fun ok => RA_pair rfl ⟨_, _, rfl⟩⟩
  · obtain ⟨tp, p, hv⟩ := hst.2.2.1
    exact (Tryd.strconv_ParseInt_10_at64_range_var s (by omega) hp tp p w (by rw [gl_var hg (g := 5) (by kernel_rfl) (by decide)]; exact hv)).mono fun e w' ⟨N, h, _, _, h2⟩ => ⟨_, .tup [([xI (Lib.intSat 64 (bsL s))], false), ([.c .ifc], false)], h, h2, ⟨rfl, .inr ⟨fun v h => (nomatch h), _, rfl⟩⟩, fun ok => RA_pair rfl ⟨_, _, rfl⟩⟩

end Go.Proofs.YthafcbbkjdbomaaDoor.V
