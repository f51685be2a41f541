import Derived.Test.YthafcbbkjdbomaaDoorW15
import Derived.Test.YthafcbbkjdbomaaDoorQ2
import Derived.Test.YthafcbbkjdbomaaDoorV23
namespace Go.Proofs.YthafcbbkjdbomaaDoor.V
open Go Go.RowKit Go.Proofs.YthafcbbkjdbomaaDoorW.PrintLast
open Go.Proofs
set_option linter.unusedVariables false
set_option linter.unusedSimpArgs false
attribute [local irreducible] awp
set_option maxRecDepth 100000
def backR (s : ByteArray) (n a e : Int) : Nat → Nat → C := elemsOf (List.map cTk [⟨3, s, 0, 0⟩, ⟨2, ⟨#[]⟩, n, a⟩, ⟨0, ⟨#[]⟩, 0, e⟩])
theorem back00 (s : ByteArray) (n a e : Int) : backR s n a e 0 0 = .v (.int .i64 3) := rfl
theorem back01 (s : ByteArray) (n a e : Int) : backR s n a e 0 1 = .v (.string s) := rfl
theorem back10 (s : ByteArray) (n a e : Int) : backR s n a e 1 0 = .v (.int .i64 2) := rfl
theorem back12 (s : ByteArray) (n a e : Int) : backR s n a e 1 2 = .v (.int .i64 n) := rfl
attribute [go_sem] back00 back01 back10 back12
set_option maxHeartbeats 8000000 in
theorem c7 (s : ByteArray) (n : Int) (h0 : -9223372036854775808 ≤ n) (h1 : n ≤ 9223372036854775807) : PC Tryd.prog 7 [A.str s, A.int .i64 n] [] (fun r bx => r = .bool true ∧ bx = []) := by
  refine enter (rs := [.tmp 4]) mx Tryd.func7 Tryd.ntmps7 fun Q0 hQ0 => ?_
  refine sq fun _ _ => ?_
  refine rg (sg ?_)
  refine nx ?_
  refine sq fun _ _ => ?_
  refine sq fun _ _ => ?_
  refine rg (sg ?_)
  refine nx ?_
  refine cb (fun h => ?_) (fun h => ?_)
  · refine sq fun _ _ => ?_
    refine rg (sg ?_)
    refine cl [] (sg ?_)
    refine (c8).mono ?_
    rintro r bx ⟨rfl, rfl⟩
    refine sg ?_
    refine nx ?_
    refine rt (sg ?_)
    refine f1 (g := sg ?_)
    exact ax [] ⟨rfl, rfl⟩
  · have hs : s.size ≤ 100 := by omega
    have hs2 : s.size ≤ 1000 := by omega
    obtain ⟨a, e, k, hb⟩ := allT_back s n hs h0 (by omega)
    have hq : rT (allT (quoS s ++ ⟨#[32]⟩ ++ ofL (Lib.itoa n))).1 = rowA 4 cTk [⟨3, s, 0, 0⟩, ⟨2, ⟨#[]⟩, n, a⟩, ⟨0, ⟨#[]⟩, 0, e⟩] := by rw [hb]; rfl
    have hq2 : (allT (quoS s ++ ⟨#[32]⟩ ++ ofL (Lib.itoa n))).2.1 = k := by rw [hb]
    have hq3 : (allT (quoS s ++ ⟨#[32]⟩ ++ ofL (Lib.itoa n))).2.2 = 0 := by rw [hb]
    have hqz : (quoS s).size ≤ 202 := by
      have h3 := escL_len (bsL s)
      have h4 := len_bsL s
      show (39 :: (escL (bsL s) ++ [39])).length ≤ 202
      simp
      omega
    have hnz := Lib.itoa_length_le n h0 h1
    refine sk (sg ?_)
    refine nx ?_
    refine sq fun _ _ => ?_
    refine rgs 2 (sgt ?_)
    refine cl [] (sg ?_)
    refine (c28 _ (by first | assumption | omega | trivial | rfl)).mono ?_
    rintro r bx ⟨rfl, rfl⟩
    refine sg ?_
    refine hr 2 (sgt ?_)
    refine cl [] (sg ?_)
    refine (c29 _ (by first | assumption | omega | trivial | rfl) (by first | assumption | omega | trivial | rfl)).mono ?_
    rintro r bx ⟨rfl, rfl⟩
    refine sg ?_
    refine hrl (sg ?_)
    refine nx ?_
    refine sq fun _ _ => ?_
    refine rg (sg ?_)
    refine And.intro (by simp; omega) ?_
    refine And.intro (by simp; omega) ?_
    refine cl [] (sg ?_)
    refine (c9 _).mono ?_
    rintro r bx ⟨rfl, rfl⟩
    refine sg ?_
    refine nx ?_
    refine sq fun _ _ => ?_
    have hx2 : rT (allT (quoS s ++ ⟨#[32]⟩ ++ ofL (Lib.itoa n))).1 = .sl 3 4 (backR s n a e) := hq
    simp only [hx2, hq2, hq3]
    refine rgs 3 (sgt ?_)
    refine cl [] (sg ?_)
    refine (c30 _ (by first | assumption | omega | trivial | rfl)).mono ?_
    rintro r bx ⟨rfl, rfl⟩
    refine sg ?_
    refine hr 5 (sgt ?_)
    refine cl [] (sg ?_)
    refine (c31 _ (by first | assumption | omega | trivial | rfl) (by first | assumption | omega | trivial | rfl)).mono ?_
    rintro r bx ⟨rfl, rfl⟩
    refine sg ?_
    refine hr 5 (sgt ?_)
    refine cl [] (sg ?_)
    refine (c10 _).mono ?_
    rintro r bx ⟨rfl, rfl⟩
    refine sg ?_
    refine hr 39 (sgt ?_)
    refine cl [] (sg ?_)
    refine (c8).mono ?_
    rintro r bx ⟨rfl, rfl⟩
    refine sg ?_
    refine hrl (sg ?_)
    refine nx ?_
    refine rt ?_
    refine f1 (g := sg ?_)
    exact ax [] ⟨rfl, rfl⟩

end Go.Proofs.YthafcbbkjdbomaaDoor.V
