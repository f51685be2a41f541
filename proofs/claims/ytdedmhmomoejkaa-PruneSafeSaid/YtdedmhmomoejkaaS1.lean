/- Words and walks for X.pruneSafe_holds, part 1 of the texts that a program of this session laid together. -/
import Derived.Test.YtdedmhmomoejkaaS0
import Derived.Test.YtdedmhmomoejkaaProg
import Derived.Below
import Derived.Deep.Draws
import Derived.Deep.AppendLies
import Derived.Maps.AppendAt
import Derived.OwnWalk
import Derived.Laws.BytesArg
import Derived.Laws.MakeOwn
import Derived.Laws.OwnMore
import Derived.Deep.OwnRows
import Derived.Tactics
import Derived.Lib.ConvBytes
import Derived.Laws.Slices
import Derived.WalkKit
import Derived.KernelRfl
import Derived.RowKit3
import Derived.Deep.LoopGhost
import Derived.Deep.QuietTactic
import Derived.BigQuiet
import Derived.WideLaws
import Derived.Deep.DeepCutAuto
import Derived.Deep.CutBlock
import Derived.Deep.RegionHeld3
import Derived.Laws.Rows
import Derived.Lib.AppendStr
import Derived.ArgAppend
import Derived.Laws.IdiomCopy
import Derived.OrdersHeld
import Derived.Laws.BitsLemmas
import Derived.RowKit
import Derived.Laws.Cover1
import Derived.Shelf.Abstract
import Derived.ProofKit
import Derived.Deep.Slices
namespace Go.Proofs.Ytdedmhmomoejkaa.X
set_option maxHeartbeats 8000000
set_option maxRecDepth 100000
open Go.RowKit Go.Proofs.YtdedmhmomoejkaaW.PrintWords Go.Proofs.YtdedmhmomoejkaaW.PrintLast Go.Proofs.YtdedmhmomoejkaaW.PrintMore
attribute [local go_sem] max2_int max_two
set_option linter.unusedVariables false
set_option linter.unusedSimpArgs false
def errW : Option Int → Value
  | none => .nilIface
  | some c => .iface 0 (.int .i64 c)
theorem errW_none : errW none = .nilIface := rfl
theorem errW_some (c : Int) : errW (some c) = .iface 0 (.int .i64 c) := rfl
theorem cz3_ {W : World} {g : Nat} {T : TypeId} {x0 x1 x2 : Value} (h : W.heap[g]? = some (.cells #[x0, x1, x2] T (0, 0))) : W.cell? ⟨g, 0, none⟩ = some x0 ∧ W.cell? ⟨g, 1, none⟩ = some x1 ∧ W.cell? ⟨g, 2, none⟩ = some x2 := ⟨(Ab h 0).trans rfl, (Ab h 1).trans rfl, (Ab h 2).trans rfl⟩
theorem cz8_ {W : World} {g : Nat} {T : TypeId} {x0 x1 x2 x3 x4 x5 x6 x7 : Value} (h : W.heap[g]? = some (.cells #[x0, x1, x2, x3, x4, x5, x6, x7] T (0, 0))) : W.cell? ⟨g, 0, none⟩ = some x0 ∧ W.cell? ⟨g, 1, none⟩ = some x1 ∧ W.cell? ⟨g, 2, none⟩ = some x2 ∧ W.cell? ⟨g, 3, none⟩ = some x3 ∧ W.cell? ⟨g, 4, none⟩ = some x4 ∧ W.cell? ⟨g, 5, none⟩ = some x5 ∧ W.cell? ⟨g, 6, none⟩ = some x6 ∧ W.cell? ⟨g, 7, none⟩ = some x7 := ⟨(Ab h 0).trans rfl, (Ab h 1).trans rfl, (Ab h 2).trans rfl, (Ab h 3).trans rfl, (Ab h 4).trans rfl, (Ab h 5).trans rfl, (Ab h 6).trans rfl, (Ab h 7).trans rfl⟩
theorem cz9_ {W : World} {g : Nat} {T : TypeId} {x0 x1 x2 x3 x4 x5 x6 x7 x8 : Value} (h : W.heap[g]? = some (.cells #[x0, x1, x2, x3, x4, x5, x6, x7, x8] T (0, 0))) : W.cell? ⟨g, 0, none⟩ = some x0 ∧ W.cell? ⟨g, 1, none⟩ = some x1 ∧ W.cell? ⟨g, 2, none⟩ = some x2 ∧ W.cell? ⟨g, 3, none⟩ = some x3 ∧ W.cell? ⟨g, 4, none⟩ = some x4 ∧ W.cell? ⟨g, 5, none⟩ = some x5 ∧ W.cell? ⟨g, 6, none⟩ = some x6 ∧ W.cell? ⟨g, 7, none⟩ = some x7 ∧ W.cell? ⟨g, 8, none⟩ = some x8 := ⟨(Ab h 0).trans rfl, (Ab h 1).trans rfl, (Ab h 2).trans rfl, (Ab h 3).trans rfl, (Ab h 4).trans rfl, (Ab h 5).trans rfl, (Ab h 6).trans rfl, (Ab h 7).trans rfl, (Ab h 8).trans rfl⟩
theorem fz3_ {W : World} {g : Nat} {T : TypeId} {cs : Array Value} (h : W.heap[g]? = some (.cells cs T (0, 0))) : W.frozen? ⟨g, 0, none⟩ = false ∧ W.frozen? ⟨g, 1, none⟩ = false ∧ W.frozen? ⟨g, 2, none⟩ = false := ⟨Bm h 0, Bm h 1, Bm h 2⟩
theorem fz8_ {W : World} {g : Nat} {T : TypeId} {cs : Array Value} (h : W.heap[g]? = some (.cells cs T (0, 0))) : W.frozen? ⟨g, 0, none⟩ = false ∧ W.frozen? ⟨g, 1, none⟩ = false ∧ W.frozen? ⟨g, 2, none⟩ = false ∧ W.frozen? ⟨g, 3, none⟩ = false ∧ W.frozen? ⟨g, 4, none⟩ = false ∧ W.frozen? ⟨g, 5, none⟩ = false ∧ W.frozen? ⟨g, 6, none⟩ = false ∧ W.frozen? ⟨g, 7, none⟩ = false := ⟨Bm h 0, Bm h 1, Bm h 2, Bm h 3, Bm h 4, Bm h 5, Bm h 6, Bm h 7⟩
theorem fz9_ {W : World} {g : Nat} {T : TypeId} {cs : Array Value} (h : W.heap[g]? = some (.cells cs T (0, 0))) : W.frozen? ⟨g, 0, none⟩ = false ∧ W.frozen? ⟨g, 1, none⟩ = false ∧ W.frozen? ⟨g, 2, none⟩ = false ∧ W.frozen? ⟨g, 3, none⟩ = false ∧ W.frozen? ⟨g, 4, none⟩ = false ∧ W.frozen? ⟨g, 5, none⟩ = false ∧ W.frozen? ⟨g, 6, none⟩ = false ∧ W.frozen? ⟨g, 7, none⟩ = false ∧ W.frozen? ⟨g, 8, none⟩ = false := ⟨Bm h 0, Bm h 1, Bm h 2, Bm h 3, Bm h 4, Bm h 5, Bm h 6, Bm h 7, Bm h 8⟩
theorem Cf {W : World} {g : Nat} {T : TypeId} {a0 a1 a2 u0 u1 u2 : Value} (h : W.heap[g]? = some (.cells #[a0, a1, a2] T (0, 0))) : (((W.setCell ⟨g, 0, none⟩ u0).setCell ⟨g, 1, none⟩ u1).setCell ⟨g, 2, none⟩ u2).heap[g]? = some (.cells #[u0, u1, u2] T (0, 0)) := by
 have h0 := h
 have h1 := Bs (cs' := #[u0, a1, a2]) h0 0 u0 rfl
 have h2 := Bs (cs' := #[u0, u1, a2]) h1 1 u1 rfl
 have h3 := Bs (cs' := #[u0, u1, u2]) h2 2 u2 rfl
 exact h3
theorem blk_all8_ {W : World} {g : Nat} {T : TypeId} {a0 a1 a2 a3 a4 a5 a6 a7 u0 u1 u2 u3 u4 u5 u6 u7 : Value} (h : W.heap[g]? = some (.cells #[a0, a1, a2, a3, a4, a5, a6, a7] T (0, 0))) : ((((((((W.setCell ⟨g, 0, none⟩ u0).setCell ⟨g, 1, none⟩ u1).setCell ⟨g, 2, none⟩ u2).setCell ⟨g, 3, none⟩ u3).setCell ⟨g, 4, none⟩ u4).setCell ⟨g, 5, none⟩ u5).setCell ⟨g, 6, none⟩ u6).setCell ⟨g, 7, none⟩ u7).heap[g]? = some (.cells #[u0, u1, u2, u3, u4, u5, u6, u7] T (0, 0)) := by
 have h0 := h
 have h1 := Bs (cs' := #[u0, a1, a2, a3, a4, a5, a6, a7]) h0 0 u0 rfl
 have h2 := Bs (cs' := #[u0, u1, a2, a3, a4, a5, a6, a7]) h1 1 u1 rfl
 have h3 := Bs (cs' := #[u0, u1, u2, a3, a4, a5, a6, a7]) h2 2 u2 rfl
 have h4 := Bs (cs' := #[u0, u1, u2, u3, a4, a5, a6, a7]) h3 3 u3 rfl
 have h5 := Bs (cs' := #[u0, u1, u2, u3, u4, a5, a6, a7]) h4 4 u4 rfl
 have h6 := Bs (cs' := #[u0, u1, u2, u3, u4, u5, a6, a7]) h5 5 u5 rfl
 have h7 := Bs (cs' := #[u0, u1, u2, u3, u4, u5, u6, a7]) h6 6 u6 rfl
 have h8 := Bs (cs' := #[u0, u1, u2, u3, u4, u5, u6, u7]) h7 7 u7 rfl
 exact h8
theorem blk_all9_ {W : World} {g : Nat} {T : TypeId} {a0 a1 a2 a3 a4 a5 a6 a7 a8 u0 u1 u2 u3 u4 u5 u6 u7 u8 : Value} (h : W.heap[g]? = some (.cells #[a0, a1, a2, a3, a4, a5, a6, a7, a8] T (0, 0))) : (((((((((W.setCell ⟨g, 0, none⟩ u0).setCell ⟨g, 1, none⟩ u1).setCell ⟨g, 2, none⟩ u2).setCell ⟨g, 3, none⟩ u3).setCell ⟨g, 4, none⟩ u4).setCell ⟨g, 5, none⟩ u5).setCell ⟨g, 6, none⟩ u6).setCell ⟨g, 7, none⟩ u7).setCell ⟨g, 8, none⟩ u8).heap[g]? = some (.cells #[u0, u1, u2, u3, u4, u5, u6, u7, u8] T (0, 0)) := by
 have h0 := h
 have h1 := Bs (cs' := #[u0, a1, a2, a3, a4, a5, a6, a7, a8]) h0 0 u0 rfl
 have h2 := Bs (cs' := #[u0, u1, a2, a3, a4, a5, a6, a7, a8]) h1 1 u1 rfl
 have h3 := Bs (cs' := #[u0, u1, u2, a3, a4, a5, a6, a7, a8]) h2 2 u2 rfl
 have h4 := Bs (cs' := #[u0, u1, u2, u3, a4, a5, a6, a7, a8]) h3 3 u3 rfl
 have h5 := Bs (cs' := #[u0, u1, u2, u3, u4, a5, a6, a7, a8]) h4 4 u4 rfl
 have h6 := Bs (cs' := #[u0, u1, u2, u3, u4, u5, a6, a7, a8]) h5 5 u5 rfl
 have h7 := Bs (cs' := #[u0, u1, u2, u3, u4, u5, u6, a7, a8]) h6 6 u6 rfl
 have h8 := Bs (cs' := #[u0, u1, u2, u3, u4, u5, u6, u7, a8]) h7 7 u7 rfl
 have h9 := Bs (cs' := #[u0, u1, u2, u3, u4, u5, u6, u7, u8]) h8 8 u8 rfl
 exact h9
theorem info3 : (Try.prog.info? 3).map (fun i => (i.zero, i.size, i.bytes)) = some (some (.int .i64 0), 1, 8) := by kernel_rfl
theorem info4 : (Try.prog.info? 4).map (fun i => (i.zero, i.size, i.bytes)) = some (some (.bool false), 1, 1) := by kernel_rfl
theorem info21 : (Try.prog.info? 21).map (fun i => (i.zero, i.size, i.bytes)) = some (some (.int .i32 0), 1, 4) := by kernel_rfl
theorem info24 : (Try.prog.info? 24).map (fun i => (i.zero, i.size, i.bytes)) = some (some (.agg #[(.bool false), (.int .i64 0), (.string ⟨#[]⟩)]), 3, 32) := by kernel_rfl
theorem info33 : (Try.prog.info? 33).map (fun i => (i.zero, i.size, i.bytes)) = some (some (.agg #[(.int .i64 0), (.int .i64 0), (.bool false), (.int .i64 0), (.string ⟨#[]⟩), (.bool false), (.int .i64 0), (.string ⟨#[]⟩)]), 8, 80) := by kernel_rfl
structure S64 where
  f0 : ByteArray
  f1 : Int
  f2 : Bool
def z64 : S64 := ⟨(⟨#[]⟩ : ByteArray), (0 : Int), false⟩
def k64 : Kd S64 := Kd.iso (Kd.pair Kd.string (Kd.pair (Kd.int .i64) Kd.bool)) (fun x : S64 => (x.f0, x.f1, x.f2))
theorem k64_open {w : World} {x : S64} {cs : List Value} (h : k64.K w x cs) : cs = [.string x.f0, .int .i64 x.f1, .bool x.f2] := by
 obtain ⟨_, _, rfl, rfl, ⟨_, _, rfl, rfl, rfl⟩⟩ := h
 exact rfl
theorem k64_mkM (w : World) (base : Nat) (ok : Nat → Prop) (x : S64)  : k64.M w base ok x [.string x.f0, .int .i64 x.f1, .bool x.f2] := ⟨[.string x.f0], [.int .i64 x.f1, .bool x.f2], rfl, rfl, ⟨[.int .i64 x.f1], [.bool x.f2], rfl, rfl, rfl⟩⟩
def Bj (xs : List S64) (i : Int) : S64 := xs.getD i.toNat z64
theorem at_T64 {w : World} {A : Option Addr} {n : Nat} {xs : List S64} (h : Kd.C k64 w A n xs) (i : Int) (h0 : 0 ≤ i) (h1 : i < n) : ∃ ad , A = some ad ∧ w.cell? (ad.add (i.toNat * 3)) = some (.string (Bj xs i).f0) ∧ w.cell? ⟨(ad.add (i.toNat * 3)).block, (ad.add (i.toNat * 3)).off + 1, none⟩ = some (.int .i64 (Bj xs i).f1) ∧ w.cell? ⟨(ad.add (i.toNat * 3)).block, (ad.add (i.toNat * 3)).off + 2, none⟩ = some (.bool (Bj xs i).f2) := by
 obtain ⟨ad, c, e, _, hK, hc0⟩ := Kd.C_get h z64 i h0 h1
 have hc : ∀ j u, c[j]? = some u → w.cell? (ad.add (i.toNat * 3 + j)) = some u := hc0
 obtain rfl := k64_open hK
 exact ⟨ad, e, hc 0 _ rfl, by rw [← add_field _ _ 1 (by omega)]; exact hc 1 _ rfl, by rw [← add_field _ _ 2 (by omega)]; exact hc 2 _ rfl⟩
structure S24 where
  f0 : Bool
  f1 : Int
  f2 : ByteArray
def z24 : S24 := ⟨false, (0 : Int), (⟨#[]⟩ : ByteArray)⟩
def k24 : Kd S24 := Kd.iso (Kd.pair Kd.bool (Kd.pair (Kd.int .i64) Kd.string)) (fun x : S24 => (x.f0, x.f1, x.f2))
theorem k24_open {w : World} {x : S24} {cs : List Value} (h : k24.K w x cs) : cs = [.bool x.f0, .int .i64 x.f1, .string x.f2] := by
 obtain ⟨_, _, rfl, rfl, ⟨_, _, rfl, rfl, rfl⟩⟩ := h
 exact rfl
theorem k24_mkM (w : World) (base : Nat) (ok : Nat → Prop) (x : S24)  : k24.M w base ok x [.bool x.f0, .int .i64 x.f1, .string x.f2] := ⟨[.bool x.f0], [.int .i64 x.f1, .string x.f2], rfl, rfl, ⟨[.int .i64 x.f1], [.string x.f2], rfl, rfl, rfl⟩⟩
def Ax (xs : List S24) (i : Int) : S24 := xs.getD i.toNat z24
theorem at_T24 {w : World} {A : Option Addr} {n : Nat} {xs : List S24} (h : Kd.C k24 w A n xs) (i : Int) (h0 : 0 ≤ i) (h1 : i < n) : ∃ ad , A = some ad ∧ w.cell? (ad.add (i.toNat * 3)) = some (.bool (Ax xs i).f0) ∧ w.cell? ⟨(ad.add (i.toNat * 3)).block, (ad.add (i.toNat * 3)).off + 1, none⟩ = some (.int .i64 (Ax xs i).f1) ∧ w.cell? ⟨(ad.add (i.toNat * 3)).block, (ad.add (i.toNat * 3)).off + 2, none⟩ = some (.string (Ax xs i).f2) := by
 obtain ⟨ad, c, e, _, hK, hc0⟩ := Kd.C_get h z24 i h0 h1
 have hc : ∀ j u, c[j]? = some u → w.cell? (ad.add (i.toNat * 3 + j)) = some u := hc0
 obtain rfl := k24_open hK
 exact ⟨ad, e, hc 0 _ rfl, by rw [← add_field _ _ 1 (by omega)]; exact hc 1 _ rfl, by rw [← add_field _ _ 2 (by omega)]; exact hc 2 _ rfl⟩
structure S27 where
  f0 : Int
  f1 : ByteArray
  f2 : Int
  f3 : S24
  f4 : Int
  f5 : ByteArray
  f6 : (List S27)
def z27 : S27 := ⟨(0 : Int), (⟨#[]⟩ : ByteArray), (0 : Int), z24, (0 : Int), (⟨#[]⟩ : ByteArray), ([] : List S27)⟩
def F27 (d : Kd S27) : Kd S27 := Kd.iso (Kd.pair (Kd.int .i64) (Kd.pair Kd.string (Kd.pair (Kd.int .i64) (Kd.pair k24 (Kd.pair (Kd.int .i64) (Kd.pair Kd.string (Kd.slice 27 d))))))) (fun x : S27 => (x.f0, x.f1, x.f2, x.f3, x.f4, x.f5, x.f6))
theorem sub27 : Kd.Sub F27 [27] := Kd.sub_iso _ (Kd.sub_pair (Kd.sub_const _ (by decide)) (Kd.sub_pair (Kd.sub_const _ (by decide)) (Kd.sub_pair (Kd.sub_const _ (by decide)) (Kd.sub_pair (Kd.sub_const _ (by decide)) (Kd.sub_pair (Kd.sub_const _ (by decide)) (Kd.sub_pair (Kd.sub_const _ (by decide)) (Kd.sub_slice 27 (by decide) Kd.sub_id)))))))
theorem sz27 : ∀ n, (Kd.upto F27 9 [27] n).sz = 9 := Kd.upto_sz (fun _ => rfl)
def k27 : Kd S27 := Kd.fix F27 9 [27] sz27 (Kd.upto_E sub27)
theorem k27_open {w : World} {x : S27} {cs : List Value} (h : k27.K w x cs) : ∃ A8 c8, cs = [.int .i64 x.f0, .string x.f1, .int .i64 x.f2, .bool x.f3.f0, .int .i64 x.f3.f1, .string x.f3.f2, .int .i64 x.f4, .string x.f5, .slice A8 x.f6.length c8] ∧ x.f6.length ≤ c8 ∧ k27.C w A8 x.f6.length x.f6 := by
 obtain ⟨n, h⟩ := h
 cases n with
 | zero => exact h.elim
 | succ n =>(
 obtain ⟨_, _, rfl, rfl, ⟨_, _, rfl, rfl, ⟨_, _, rfl, rfl, ⟨_, _, rfl, s3, ⟨_, _, rfl, rfl, ⟨_, _, rfl, rfl, ⟨A8, c8, rfl, l8, g8⟩⟩⟩⟩⟩⟩⟩ := h
 obtain rfl := k24_open s3
 exact ⟨A8, c8, rfl, l8, Kd.fix_C g8⟩)
def Al (xs : List S27) (i : Int) : S27 := xs.getD i.toNat z27
theorem at_T27 {w : World} {A : Option Addr} {n : Nat} {xs : List S27} (h : Kd.C k27 w A n xs) (i : Int) (h0 : 0 ≤ i) (h1 : i < n) : ∃ ad A8 c8, A = some ad ∧ w.cell? (ad.add (i.toNat * 9)) = some (.int .i64 (Al xs i).f0) ∧ w.cell? ⟨(ad.add (i.toNat * 9)).block, (ad.add (i.toNat * 9)).off + 1, none⟩ = some (.string (Al xs i).f1) ∧ w.cell? ⟨(ad.add (i.toNat * 9)).block, (ad.add (i.toNat * 9)).off + 2, none⟩ = some (.int .i64 (Al xs i).f2) ∧ w.cell? ⟨(ad.add (i.toNat * 9)).block, (ad.add (i.toNat * 9)).off + 3, none⟩ = some (.bool (Al xs i).f3.f0) ∧ w.cell? ⟨(ad.add (i.toNat * 9)).block, (ad.add (i.toNat * 9)).off + 4, none⟩ = some (.int .i64 (Al xs i).f3.f1) ∧ w.cell? ⟨(ad.add (i.toNat * 9)).block, (ad.add (i.toNat * 9)).off + 5, none⟩ = some (.string (Al xs i).f3.f2) ∧ w.cell? ⟨(ad.add (i.toNat * 9)).block, (ad.add (i.toNat * 9)).off + 6, none⟩ = some (.int .i64 (Al xs i).f4) ∧ w.cell? ⟨(ad.add (i.toNat * 9)).block, (ad.add (i.toNat * 9)).off + 7, none⟩ = some (.string (Al xs i).f5) ∧ w.cell? ⟨(ad.add (i.toNat * 9)).block, (ad.add (i.toNat * 9)).off + 8, none⟩ = some (.slice A8 (Al xs i).f6.length c8) ∧ (Al xs i).f6.length ≤ c8 ∧ k27.C w A8 (Al xs i).f6.length (Al xs i).f6 := by
 obtain ⟨ad, c, e, _, hK, hc0⟩ := Kd.C_get h z27 i h0 h1
 have hc : ∀ j u, c[j]? = some u → w.cell? (ad.add (i.toNat * 9 + j)) = some u := hc0
 obtain ⟨A8, c8, rfl, l8, g8⟩ := k27_open hK
 exact ⟨ad, A8, c8, e, hc 0 _ rfl, by rw [← add_field _ _ 1 (by omega)]; exact hc 1 _ rfl, by rw [← add_field _ _ 2 (by omega)]; exact hc 2 _ rfl, by rw [← add_field _ _ 3 (by omega)]; exact hc 3 _ rfl, by rw [← add_field _ _ 4 (by omega)]; exact hc 4 _ rfl, by rw [← add_field _ _ 5 (by omega)]; exact hc 5 _ rfl, by rw [← add_field _ _ 6 (by omega)]; exact hc 6 _ rfl, by rw [← add_field _ _ 7 (by omega)]; exact hc 7 _ rfl, by rw [← add_field _ _ 8 (by omega)]; exact hc 8 _ rfl, l8, g8⟩
structure S33 where
  f0 : Int
  f1 : Int
  f2 : S24
  f3 : S24
def z33 : S33 := ⟨(0 : Int), (0 : Int), z24, z24⟩
def k33 : Kd S33 := Kd.iso (Kd.pair (Kd.int .i64) (Kd.pair (Kd.int .i64) (Kd.pair k24 k24))) (fun x : S33 => (x.f0, x.f1, x.f2, x.f3))
theorem k33_open {w : World} {x : S33} {cs : List Value} (h : k33.K w x cs) : cs = [.int .i64 x.f0, .int .i64 x.f1, .bool x.f2.f0, .int .i64 x.f2.f1, .string x.f2.f2, .bool x.f3.f0, .int .i64 x.f3.f1, .string x.f3.f2] := by
 obtain ⟨_, _, rfl, rfl, ⟨_, _, rfl, rfl, ⟨_, _, rfl, s2, s5⟩⟩⟩ := h
 obtain rfl := k24_open s2
 obtain rfl := k24_open s5
 exact rfl
theorem k33_mkM (w : World) (base : Nat) (ok : Nat → Prop) (x : S33)  : k33.M w base ok x [.int .i64 x.f0, .int .i64 x.f1, .bool x.f2.f0, .int .i64 x.f2.f1, .string x.f2.f2, .bool x.f3.f0, .int .i64 x.f3.f1, .string x.f3.f2] := ⟨[.int .i64 x.f0], [.int .i64 x.f1, .bool x.f2.f0, .int .i64 x.f2.f1, .string x.f2.f2, .bool x.f3.f0, .int .i64 x.f3.f1, .string x.f3.f2], rfl, rfl, ⟨[.int .i64 x.f1], [.bool x.f2.f0, .int .i64 x.f2.f1, .string x.f2.f2, .bool x.f3.f0, .int .i64 x.f3.f1, .string x.f3.f2], rfl, rfl, ⟨[.bool x.f2.f0, .int .i64 x.f2.f1, .string x.f2.f2], [.bool x.f3.f0, .int .i64 x.f3.f1, .string x.f3.f2], rfl, (k24_mkM w base ok x.f2 ), (k24_mkM w base ok x.f3 )⟩⟩⟩
def Au (xs : List S33) (i : Int) : S33 := xs.getD i.toNat z33
theorem at_T33 {w : World} {A : Option Addr} {n : Nat} {xs : List S33} (h : Kd.C k33 w A n xs) (i : Int) (h0 : 0 ≤ i) (h1 : i < n) : ∃ ad , A = some ad ∧ w.cell? (ad.add (i.toNat * 8)) = some (.int .i64 (Au xs i).f0) ∧ w.cell? ⟨(ad.add (i.toNat * 8)).block, (ad.add (i.toNat * 8)).off + 1, none⟩ = some (.int .i64 (Au xs i).f1) ∧ w.cell? ⟨(ad.add (i.toNat * 8)).block, (ad.add (i.toNat * 8)).off + 2, none⟩ = some (.bool (Au xs i).f2.f0) ∧ w.cell? ⟨(ad.add (i.toNat * 8)).block, (ad.add (i.toNat * 8)).off + 3, none⟩ = some (.int .i64 (Au xs i).f2.f1) ∧ w.cell? ⟨(ad.add (i.toNat * 8)).block, (ad.add (i.toNat * 8)).off + 4, none⟩ = some (.string (Au xs i).f2.f2) ∧ w.cell? ⟨(ad.add (i.toNat * 8)).block, (ad.add (i.toNat * 8)).off + 5, none⟩ = some (.bool (Au xs i).f3.f0) ∧ w.cell? ⟨(ad.add (i.toNat * 8)).block, (ad.add (i.toNat * 8)).off + 6, none⟩ = some (.int .i64 (Au xs i).f3.f1) ∧ w.cell? ⟨(ad.add (i.toNat * 8)).block, (ad.add (i.toNat * 8)).off + 7, none⟩ = some (.string (Au xs i).f3.f2) := by
 obtain ⟨ad, c, e, _, hK, hc0⟩ := Kd.C_get h z33 i h0 h1
 have hc : ∀ j u, c[j]? = some u → w.cell? (ad.add (i.toNat * 8 + j)) = some u := hc0
 obtain rfl := k33_open hK
 exact ⟨ad, e, hc 0 _ rfl, by rw [← add_field _ _ 1 (by omega)]; exact hc 1 _ rfl, by rw [← add_field _ _ 2 (by omega)]; exact hc 2 _ rfl, by rw [← add_field _ _ 3 (by omega)]; exact hc 3 _ rfl, by rw [← add_field _ _ 4 (by omega)]; exact hc 4 _ rfl, by rw [← add_field _ _ 5 (by omega)]; exact hc 5 _ rfl, by rw [← add_field _ _ 6 (by omega)]; exact hc 6 _ rfl, by rw [← add_field _ _ 7 (by omega)]; exact hc 7 _ rfl⟩
def rd_L8 (xs : List (List S24)) (i : Int) : (List S24) := xs.getD i.toNat ([] : List S24)
theorem at_L8 {w : World} {A : Option Addr} {n : Nat} {xs : List (List S24)} (h : Kd.C (Kd.slice 24 k24) w A n xs) (i : Int) (h0 : 0 ≤ i) (h1 : i < n) : ∃ ad A0 c0, A = some ad ∧ w.cell? (ad.add i.toNat) = some (.slice A0 (rd_L8 xs i).length c0) ∧ (rd_L8 xs i).length ≤ c0 ∧ k24.C w A0 (rd_L8 xs i).length (rd_L8 xs i) := by
 obtain ⟨ad, c, e, _, hK, hc0⟩ := Kd.C_get h ([] : List S24) i h0 h1
 have hc : ∀ j u, c[j]? = some u → w.cell? (ad.add (i.toNat * 1 + j)) = some u := hc0
 obtain ⟨A0, c0, rfl, l0, g0⟩ := hK
 exact ⟨ad, A0, c0, e, by have hq := hc 0 _ rfl; rwa [Nat.mul_one, Nat.add_zero] at hq, l0, g0⟩
def rd_L10 (xs : List (List Int)) (i : Int) : (List Int) := xs.getD i.toNat ([] : List Int)
theorem bk_ {g : Nat} {o : Obj} {W0 W w1 : World} (h : Aa (W0.heap[g]? = some o)) (hb : Below W.heap.size W w1)
    (hk : W.heap[g]? = some o := by (with_reducible repeat (first | refine Ag ?_ _ | refine Af ?_ | refine Ae ?_ _)); exact Aa.out (by with_reducible assumption)) : Aa (w1.heap[g]? = some o) := ⟨Ct hk hb⟩
theorem bs_ {w W0 W w1 : World} (h : Aa (Below w.heap.size w W0)) (hb : Below W.heap.size W w1)
    (hk : Below w.heap.size w W := by repeat (first | (with_reducible first | exact Aa.out (by with_reducible assumption) | apply Ak | apply Ah | apply Aj | refine Ao ?_ (Aa.out (by with_reducible assumption))) | exact Aa.out (by with_reducible assumption))) : Aa (Below w.heap.size w w1) := ⟨Cp hk hb⟩
theorem ge_ {g : Nat} {w W0 W : World} (h : Aa (Below w.heap.size w W0)) (hg : g = W.heap.size)
    (hk : Below w.heap.size w W := by repeat (first | (with_reducible first | exact Aa.out (by with_reducible assumption) | apply Ak | apply Ah | apply Aj | refine Ao ?_ (Aa.out (by with_reducible assumption))) | exact Aa.out (by with_reducible assumption))) : Aa (w.heap.size ≤ g) := ⟨by rw [hg]; exact Ca hk⟩
theorem lt_ {g g' : Nat} {o : Obj} {W0 W : World} (h : Aa (W0.heap[g]? = some o)) (hg : g' = W.heap.size)
    (hk : W.heap[g]? = some o := by (with_reducible repeat (first | refine Ag ?_ _ | refine Af ?_ | refine Ae ?_ _)); exact Aa.out (by with_reducible assumption)) : Aa (g ≠ g') := ⟨by rw [hg]; exact Nat.ne_of_lt (blk_lt hk)⟩
theorem gt_ {g g' : Nat} {o : Obj} {W0 W : World} (h : Aa (W0.heap[g]? = some o)) (hg : g' = W.heap.size)
    (hk : W.heap[g]? = some o := by (with_reducible repeat (first | refine Ag ?_ _ | refine Af ?_ | refine Ae ?_ _)); exact Aa.out (by with_reducible assumption)) : Aa (g' ≠ g) := ⟨by rw [hg]; exact Nat.ne_of_gt (blk_lt hk)⟩
theorem bx_ {P : Program} {ops : Array Oper} {rest : List Oper} {o : Oper} {a : Act} {Q : Exit → Act → World → Prop} {W : World} {N : Tmp} {cs : Array Value} {t : TypeId}
    (h : ∀ g, g = W.heap.size → ∀ w1, w1.heap[g]? = some (.cells cs t (0, 0)) → Below W.heap.size W w1 → wpList P ops Q rest (a.put o.dst (.pointer (some ⟨g, 0, none⟩))) w1)
    (hd : o.dst = some N := by with_reducible rfl) (hgd : o.guard = none := by rfl)
    (hrun : (execOp a.eval o).run P W = .ok (.value (.pointer (some ⟨W.heap.size, 0, none⟩))) (W.alloc (.cells cs t (0, 0))) := by first | (go_simp; done) | (go_simp; rfl)) : wpList P ops Q (o :: rest) a W := box_event hgd hd hrun h
theorem zc2_ {W : World} {g : Nat} {T : TypeId} {x0 x1 : Value} (h : W.heap[g]? = some (.cells #[x0, x1] T (0, 0))) : W.cell? ⟨g, 0, none⟩ = some x0 ∧ W.cell? ⟨g, 1, none⟩ = some x1 := ⟨(Ab h 0).trans rfl, (Ab h 1).trans rfl⟩
theorem zf2_ {W : World} {g : Nat} {T : TypeId} {cs : Array Value} (h : W.heap[g]? = some (.cells cs T (0, 0))) : W.frozen? ⟨g, 0, none⟩ = false ∧ W.frozen? ⟨g, 1, none⟩ = false := ⟨Bm h 0, Bm h 1⟩
theorem zc3_ {W : World} {g : Nat} {T : TypeId} {x0 x1 x2 : Value} (h : W.heap[g]? = some (.cells #[x0, x1, x2] T (0, 0))) : W.cell? ⟨g, 0, none⟩ = some x0 ∧ W.cell? ⟨g, 1, none⟩ = some x1 ∧ W.cell? ⟨g, 2, none⟩ = some x2 := ⟨(Ab h 0).trans rfl, (Ab h 1).trans rfl, (Ab h 2).trans rfl⟩
theorem zf3_ {W : World} {g : Nat} {T : TypeId} {cs : Array Value} (h : W.heap[g]? = some (.cells cs T (0, 0))) : W.frozen? ⟨g, 0, none⟩ = false ∧ W.frozen? ⟨g, 1, none⟩ = false ∧ W.frozen? ⟨g, 2, none⟩ = false := ⟨Bm h 0, Bm h 1, Bm h 2⟩
theorem zc8_ {W : World} {g : Nat} {T : TypeId} {x0 x1 x2 x3 x4 x5 x6 x7 : Value} (h : W.heap[g]? = some (.cells #[x0, x1, x2, x3, x4, x5, x6, x7] T (0, 0))) : W.cell? ⟨g, 0, none⟩ = some x0 ∧ W.cell? ⟨g, 1, none⟩ = some x1 ∧ W.cell? ⟨g, 2, none⟩ = some x2 ∧ W.cell? ⟨g, 3, none⟩ = some x3 ∧ W.cell? ⟨g, 4, none⟩ = some x4 ∧ W.cell? ⟨g, 5, none⟩ = some x5 ∧ W.cell? ⟨g, 6, none⟩ = some x6 ∧ W.cell? ⟨g, 7, none⟩ = some x7 := ⟨(Ab h 0).trans rfl, (Ab h 1).trans rfl, (Ab h 2).trans rfl, (Ab h 3).trans rfl, (Ab h 4).trans rfl, (Ab h 5).trans rfl, (Ab h 6).trans rfl, (Ab h 7).trans rfl⟩
theorem zf8_ {W : World} {g : Nat} {T : TypeId} {cs : Array Value} (h : W.heap[g]? = some (.cells cs T (0, 0))) : W.frozen? ⟨g, 0, none⟩ = false ∧ W.frozen? ⟨g, 1, none⟩ = false ∧ W.frozen? ⟨g, 2, none⟩ = false ∧ W.frozen? ⟨g, 3, none⟩ = false ∧ W.frozen? ⟨g, 4, none⟩ = false ∧ W.frozen? ⟨g, 5, none⟩ = false ∧ W.frozen? ⟨g, 6, none⟩ = false ∧ W.frozen? ⟨g, 7, none⟩ = false := ⟨Bm h 0, Bm h 1, Bm h 2, Bm h 3, Bm h 4, Bm h 5, Bm h 6, Bm h 7⟩
theorem zc9_ {W : World} {g : Nat} {T : TypeId} {x0 x1 x2 x3 x4 x5 x6 x7 x8 : Value} (h : W.heap[g]? = some (.cells #[x0, x1, x2, x3, x4, x5, x6, x7, x8] T (0, 0))) : W.cell? ⟨g, 0, none⟩ = some x0 ∧ W.cell? ⟨g, 1, none⟩ = some x1 ∧ W.cell? ⟨g, 2, none⟩ = some x2 ∧ W.cell? ⟨g, 3, none⟩ = some x3 ∧ W.cell? ⟨g, 4, none⟩ = some x4 ∧ W.cell? ⟨g, 5, none⟩ = some x5 ∧ W.cell? ⟨g, 6, none⟩ = some x6 ∧ W.cell? ⟨g, 7, none⟩ = some x7 ∧ W.cell? ⟨g, 8, none⟩ = some x8 := ⟨(Ab h 0).trans rfl, (Ab h 1).trans rfl, (Ab h 2).trans rfl, (Ab h 3).trans rfl, (Ab h 4).trans rfl, (Ab h 5).trans rfl, (Ab h 6).trans rfl, (Ab h 7).trans rfl, (Ab h 8).trans rfl⟩
theorem zf9_ {W : World} {g : Nat} {T : TypeId} {cs : Array Value} (h : W.heap[g]? = some (.cells cs T (0, 0))) : W.frozen? ⟨g, 0, none⟩ = false ∧ W.frozen? ⟨g, 1, none⟩ = false ∧ W.frozen? ⟨g, 2, none⟩ = false ∧ W.frozen? ⟨g, 3, none⟩ = false ∧ W.frozen? ⟨g, 4, none⟩ = false ∧ W.frozen? ⟨g, 5, none⟩ = false ∧ W.frozen? ⟨g, 6, none⟩ = false ∧ W.frozen? ⟨g, 7, none⟩ = false ∧ W.frozen? ⟨g, 8, none⟩ = false := ⟨Bm h 0, Bm h 1, Bm h 2, Bm h 3, Bm h 4, Bm h 5, Bm h 6, Bm h 7, Bm h 8⟩
theorem cf1_ {W : World} {a : Addr} {g i0 : Nat} {u0 : Value} {v : Option Value} (h : Aa (a.block ≠ g)) (e : W.cell? a = v) : (W.setCell ⟨g, i0, none⟩ u0).cell? a = v := (cell_far h.out _).trans e
theorem cf2_ {W : World} {a : Addr} {g i0 i1 : Nat} {u0 u1 : Value} {v : Option Value} (h : Aa (a.block ≠ g)) (e : W.cell? a = v) : ((W.setCell ⟨g, i0, none⟩ u0).setCell ⟨g, i1, none⟩ u1).cell? a = v := cf1_ h (cf1_ h e)
theorem cf3_ {W : World} {a : Addr} {g i0 i1 i2 : Nat} {u0 u1 u2 : Value} {v : Option Value} (h : Aa (a.block ≠ g)) (e : W.cell? a = v) : (((W.setCell ⟨g, i0, none⟩ u0).setCell ⟨g, i1, none⟩ u1).setCell ⟨g, i2, none⟩ u2).cell? a = v := cf1_ h (cf2_ h e)
def bl_ (n m : Nat) : Array Bool := ((List.range n).map (fun i => m.testBit i)).toArray
theorem pu_ {P : Program} {ops : Array Oper} {Q : Exit → Act → World → Prop} {md : Region.Mode} {S : World → Prop} {ds : List Nat} {oi : Oper} {v : Value} {fuel : Nat} {l : Array Bool} {a a' : Act} {w : World} {T : Bool × List (List Nat × List Nat)} (i : Nat) (N : Option Tmp) (l' : Array Bool)
    (h : wpAnyLast P md ops Q S ds fuel l' a' w) (hi : ops[i]? = some oi := by exact rfl) (hN : oi.dst = N := by exact rfl) (hT : Aa (rtab md ops = T) := by with_reducible assumption)
    (hc : anyT T l.toList l'.toList i = true := by kernel_rfl) (hQ : ∀ c a w, Q (.panic c) (a.put oi.dst v) w → Q (.panic c) a w := by exact fun _ _ _ h => h)
    (hy : Yields P ops oi v a := by exact Or.inl ⟨by rfl, by intro w'; go_simp; with_reducible rfl⟩)
    (ha : a.put N v = a' := by (simp only [Act.put, List.setIfInBounds_toArray, List.set_cons_zero, List.set_cons_succ, i64_w, i32_w]; rfl)) : wpAnyLast P md ops Q S ds (fuel + 1) l a w :=
  pure_ l' hi hN (any_of hT.out hc) hQ hy ha h
theorem ta_ {P : Program} {ops : Array Oper} {Q : Exit → Act → World → Prop} {md : Region.Mode} {S : World → Prop} {ds : List Nat} {oi : Oper} {v : Value} {fuel : Nat} {l : Array Bool} {a a' : Act} {w : World} {T : Bool × List (List Nat × List Nat)} {B : List Nat} (i : Nat) (N : Option Tmp) (l' : Array Bool) (hS : S w)
    (h : wpAnyLast P md ops Q S ds fuel l' a' w) (hi : ops[i]? = some oi := by exact rfl) (hN : oi.dst = N := by exact rfl) (hT : Aa (rtab md ops = T) := by with_reducible assumption) (hW : Aa (waitsOk T.2 B = true) := by with_reducible assumption)
    (hc : takeW T B ds l.toList l'.toList i = true := by kernel_rfl) (hQ : ∀ c a w, Q (.panic c) (a.put oi.dst v) w → Q (.panic c) a w := by exact fun _ _ _ h => h)
    (hy : YieldsIf P ops S oi v a := by exact Or.inl ⟨by rfl, by intro w' hs_; (repeat (obtain ⟨_, hs_⟩ := hs_)); go_simp; with_reducible rfl⟩)
    (ha : a.put N v = a' := by (simp only [Act.put, List.setIfInBounds_toArray, List.set_cons_zero, List.set_cons_succ, i64_w, i32_w]; rfl)) : wpAnyLast P md ops Q S ds (fuel + 1) l a w :=
  take_ l' hi hN (take_ofW hT.out hW.out hc) hQ hy hS ha h
theorem en_ {p : Prop} {w W0 W : World} (h : Aa (Below w.heap.size w W0)) (hk : Below w.heap.size w W := by repeat (first | (with_reducible first | exact Aa.out (by with_reducible assumption) | apply Ak | apply Ah | apply Aj | refine Ao ?_ (Aa.out (by with_reducible assumption))) | exact Aa.out (by with_reducible assumption)))
    (hp : p := by first | rfl | (simp [errW_none, errW_some] <;> rfl) | (simp [*, errW_none, errW_some] <;> rfl)) : p ∧ Below w.heap.size w W := ⟨hp, hk⟩
theorem hc_ {w W : World} {a : Addr} {v : Value} (h : Aa (Below w.heap.size w W)) (hx : w.cell? a = some v) : W.cell? a = some v := (h.out.cell (World.block_lt_of_cell? w _ hx)).trans hx
theorem dt_ {p : Prop} [Decidable p] (h : decide p = true := by first | (with_reducible assumption) | assumption) : p := of_decide_eq_true h
theorem gs_ {P : Program} {ops : Array Oper} {Q : Exit → Act → World → Prop} {oi : Oper} {N : Option Tmp} {a : Act} {w : World} {K : Act → World → Prop} {f : FuncId} {fn : Func} {as_ : Array Operand} {ts : Array TypeId} (hf : P.funcs[f]? = some fn) (args : Array Value)
    (h : Calls P f args w fun e w' => ∃ v, e = .returned v ∧ K (a.put N v) w') (hname : (fn.name == "runtime.NumGoroutine") = false := by kernel_rfl) (hb : fn.body.isSome = true := by exact rfl)
    (hw : Region.wanted oi (yielded ops a.tmps) = true := by rfl) (hN : oi.dst = N := by exact rfl) (hop : oi.op = .call { callee := .value (.func f), args := as_, argTypes := ts } := by exact rfl)
    (hargs : as_.map a.eval = args := by (try simp only [List.map_toArray, List.map_cons, List.map_nil]); first | done | rfl | (simp only [List.length_drop, List.length_take]; rfl)) :
    if Region.wanted oi (yielded ops a.tmps) = true then Oper.wp P oi a w K Q else K (a.put N undef) w := goes_ hf hname hb args hw hN hop hargs h
theorem gl_ {P : Program} {ops : Array Oper} {Q : Exit → Act → World → Prop} {rest : List Oper} {oi : Oper} {a : Act} {w : World} (N : Option Tmp) (hd : oi.dst = N) {f : FuncId} {fn : Func} {as_ : Array Operand} {ts : Array TypeId} (hf : P.funcs[f]? = some fn) (args : Array Value)
    (h : Calls P f args w fun e w' => ∃ v, e = .returned v ∧ wpList P ops Q rest (a.put N v) w') (hg : oi.guard = none := by exact rfl) (hname : (fn.name == "runtime.NumGoroutine") = false := by kernel_rfl) (hb : fn.body.isSome = true := by exact rfl)
    (hop : oi.op = .call { callee := .value (.func f), args := as_, argTypes := ts } := by exact rfl)
    (hargs : as_.map a.eval = args := by (try simp only [List.map_toArray, List.map_cons, List.map_nil]); first | done | rfl | (simp only [List.length_drop, List.length_take]; rfl)) : wpList P ops Q (oi :: rest) a w := goesL_ N hd hg hf hname hb args hop hargs h
structure Opens (P : Program) (T : TypeId) {α : Type} (d : Kd α) (ok : α → Prop) (n : Nat) : Prop where
  go : ∀ (H : Type) (enc : TypeId × Value → H) (w : World) (base : Nat) (spare : Nat → Bool) (held : Bool) (fuel : Nat) (cs : List Value) (x : DataW H × List MemPlace),
    fuel ≤ n → DataW.trod enc P w base spare held fuel T cs = some x → ∃ a : α, d.K w a cs ∧ ok a
theorem opens_int {P : Program} {T : TypeId} {k : IntKind} (h : P.underlying T = some (.int k)) (n : Nat) : Opens P T (Kd.int k) (fun a => (Lit.int k a).wf = true) n := by
 constructor
 intro H enc w base spare held fuel cs x _ hx
 obtain ⟨a, rfl, _, hw⟩ := DataW.trod_int h hx
 exact ⟨a, rfl, hw⟩
theorem opens_bool {P : Program} {T : TypeId} (h : P.underlying T = some .bool) (n : Nat) : Opens P T Kd.bool (fun _ => True) n := by
 constructor
 intro H enc w base spare held fuel cs x _ hx
 obtain ⟨a, rfl, _⟩ := DataW.trod_bool h hx
 exact ⟨a, rfl, trivial⟩
theorem opens_string {P : Program} {T : TypeId} (h : P.underlying T = some .string) (n : Nat) : Opens P T Kd.string (fun a => a.size ≤ 9223372036854775807) n := by
 constructor
 intro H enc w base spare held fuel cs x _ hx
 obtain ⟨a, rfl, _, hs⟩ := DataW.trod_string h hx
 exact ⟨a, rfl, hs⟩
theorem cells_at {w : World} {base : Nat} {a : Addr} {n : Nat} {cs : List Value} (h : w.cells? base a n = some cs) : cs.length = n ∧ ∀ i u, cs[i]? = some u → w.cell? (a.add i) = some u := by
 unfold World.cells? at h
 split at h
 ·(
 refine ⟨by simpa using mapM_some_length h, fun i u hu => ?_⟩
 have hi := (List.getElem?_eq_some_iff.1 hu).1
 have hn : cs.length = n := by simpa using mapM_some_length h
 have := mapM_some_get h i i (List.getElem?_range (by omega))
 rw [this, hu])
 ·cases h
theorem opens_slice {P : Program} {T E : TypeId} {α : Type} {d : Kd α} {ok : α → Prop} {n : Nat} (h : P.underlying T = some (.slice E)) (hc : P.cellsOf E = d.sz) (he : Opens P E d ok n) :
    Opens P T (Kd.slice E d) (fun l => (∀ a ∈ l, ok a) ∧ l.length ≤ 9223372036854775807) (n + 1) := by
 constructor
 intro H enc w base spare held fuel cs x hf hx
 rcases DataW.trod_slice h hx with ⟨rfl, _⟩ | ⟨a, len, cap, elems, rest, m, rfl, rfl, _, hb, hl, hm, hlen, hel, _⟩
 ·exact ⟨[], ⟨none, 0, rfl, Nat.le_refl _, Kd.C_nil d w⟩, by simp, by simp⟩
 have hx : ∀ i, i < len → ∃ (y : α) (c : List Value), d.K w y c ∧ ok y ∧ c.length = d.sz ∧ ∀ j u, c[j]? = some u → w.cell? ((a.add (i * d.sz)).add j) = some u := by(
 intro i hi
 have h1 := hel i hi
 rw [List.getElem?_eq_getElem (by omega)] at h1
 obtain ⟨c, hc1, hc2⟩ := Option.bind_eq_some_iff.1 h1
 obtain ⟨y, hy, hok⟩ := he.go H enc w base spare held m c _ (by omega) hc2
 rw [hc] at hc1
 exact ⟨y, c, hy, hok, (cells_at hc1).1, (cells_at hc1).2⟩)
 have key : ∀ k, k ≤ len → ∃ l : List α, l.length = k ∧ (∀ z ∈ l, ok z) ∧ ∀ (j : Nat) (p : α), l[j]? = some p → ∃ c : List Value, c.length = d.sz ∧ d.K w p c ∧ ∀ i u, c[i]? = some u → w.cell? (a.add (j * d.sz + i)) = some u := by(
 intro k
 induction k with
 | zero => exact fun _ => ⟨[], rfl, by simp, fun j p hp => by simp at hp⟩
 | succ k ih =>(
 intro hk
 obtain ⟨l, h1, h2, h3⟩ := ih (by omega)
 obtain ⟨y, c, hy, hok, hcl, hcc⟩ := hx k (by omega)
 refine ⟨l ++ [y], by simp [h1], ?_, ?_⟩
 ·(
 intro z hz
 rcases List.mem_append.1 hz with hz | hz
 ·exact h2 z hz
 ·rw [List.mem_singleton.1 hz]; exact hok)
 ·(
 intro j p hp
 by_cases hj : j < k
 ·(
 rw [List.getElem?_append_left (by omega)] at hp
 exact h3 j p hp)
 ·(
 rw [List.getElem?_append_right (by omega)] at hp
 have hjk : j = k := by(
 have := (List.getElem?_eq_some_iff.1 hp).1
 simp at this
 omega)
 subst hjk
 rw [h1, Nat.sub_self] at hp
 have hp' : y = p := by simpa using hp
 subst hp'
 exact ⟨c, hcl, hy, fun i u hu => by rw [← add_add]; exact hcc i u hu⟩))))
 obtain ⟨l, h1, h2, h3⟩ := key len (Nat.le_refl _)
 subst h1
 exact ⟨l, ⟨some a, cap, rfl, hl, ⟨rfl, by simp only [maxLen] at hm; omega, fun _ => ⟨a, rfl, h3⟩⟩⟩, h2, by simp only [maxLen] at hm; omega⟩
theorem Opens.le {P : Program} {T : TypeId} {α : Type} {d : Kd α} {ok : α → Prop} {n m : Nat} (h : Opens P T d ok n) (hm : m ≤ n) : Opens P T d ok m :=
  ⟨fun H enc w base spare held fuel cs x hf hx => h.go H enc w base spare held fuel cs x (Nat.le_trans hf hm) hx⟩
theorem Opens.weak {P : Program} {T : TypeId} {α : Type} {d : Kd α} {ok ok' : α → Prop} {n : Nat} (h : Opens P T d ok n) (hm : ∀ a, ok a → ok' a) : Opens P T d ok' n := by
 constructor
 intro H enc w base spare held fuel cs x hf hx
 obtain ⟨a, h1, h2⟩ := h.go H enc w base spare held fuel cs x hf hx
 exact ⟨a, h1, hm a h2⟩
structure OpensFs (P : Program) (fs : List Field) (off : Nat) {α : Type} (d : Kd α) (ok : α → Prop) (n : Nat) : Prop where
  go : ∀ (H : Type) (enc : TypeId × Value → H) (w : World) (base : Nat) (spare : Nat → Bool) (held : Bool) (fuel : Nat) (cs : List Value),
    fuel ≤ n → cs.length = off + d.sz → (∀ f ∈ fs, ∃ y : DataW H × List MemPlace, DataW.trod enc P w base spare held fuel f.type ((cs.drop f.offset).take (P.cellsOf f.type)) = some y) → ∃ a : α, d.K w a (cs.drop off) ∧ ok a
theorem opens_last {P : Program} {f : Field} {t : TypeId} {α : Type} {d : Kd α} {ok : α → Prop} {n off : Nat} (h : Opens P t d ok n) (hc : P.cellsOf t = d.sz) (ht : f.type = t) (ho : f.offset = off) : OpensFs P [f] off d ok n := by
 subst ht
 constructor
 intro H enc w base spare held fuel cs hf hl hfs
 obtain ⟨y, hy⟩ := hfs f (by simp)
 rw [ho, hc, List.take_of_length_le (by simp; omega)] at hy
 exact h.go H enc w base spare held fuel _ y hf hy
theorem opens_next {P : Program} {f : Field} {fs : List Field} {α β : Type} {d : Kd α} {e : Kd β} {ok : α → Prop} {ok' : β → Prop} {n off : Nat} {t : TypeId} (h : Opens P t d ok n) (hc : P.cellsOf t = d.sz)
    (hr : OpensFs P fs (off + d.sz) e ok' n) (ht : f.type = t) (ho : f.offset = off) : OpensFs P (f :: fs) off (Kd.pair d e) (fun p => ok p.1 ∧ ok' p.2) n := by
 subst ht
 constructor
 intro H enc w base spare held fuel cs hf hl hfs
 obtain ⟨y, hy⟩ := hfs f (by simp)
 rw [ho, hc] at hy
 obtain ⟨a, ha, hao⟩ := h.go H enc w base spare held fuel _ y hf hy
 have hl : cs.length = off + (d.sz + e.sz) := hl
 obtain ⟨b, hb, hbo⟩ := hr.go H enc w base spare held fuel cs hf (by omega) (fun g hg => hfs g (List.mem_cons_of_mem _ hg))
 refine ⟨(a, b), ⟨_, _, ?_, ha, hb⟩, hao, hbo⟩
 rw [← List.drop_drop, List.take_append_drop]
theorem opens_struct {P : Program} {T : TypeId} {fs : Array Field} {α : Type} {d : Kd α} {ok : α → Prop} {n : Nat} (h : P.underlying T = some (.struct fs)) (hc : P.cellsOf T = d.sz) (hf : OpensFs P fs.toList 0 d ok n) : Opens P T d ok (n + 1) := by
  constructor
  intro H enc w base spare held fuel cs x hfu hx
  obtain ⟨xs, m, rfl, rfl, hl, hlen, hg⟩ := DataW.trod_struct h hx
  have := hf.go H enc w base spare held m cs (by omega) (by omega) (fun f hmem => by
    obtain ⟨i, hi⟩ := List.mem_iff_getElem?.1 hmem
    have hi' : fs[i]? = some f := by simpa using hi
    have hlt : i < fs.size := (Array.getElem?_eq_some_iff.1 hi').1
    exact ⟨xs[i]'(by omega), by rw [hg i f hi']; exact List.getElem?_eq_getElem (by omega)⟩)
  simpa using this
theorem opens_iso {P : Program} {T : TypeId} {α β : Type} {d : Kd α} {ok : α → Prop} {n : Nat} {f : β → α} (g : α → β) (hg : ∀ a, f (g a) = a) (h : Opens P T d ok n) : Opens P T (Kd.iso d f) (fun b => ok (f b)) n := by
 constructor
 intro H enc w base spare held fuel cs x hf hx
 obtain ⟨a, h1, h2⟩ := h.go H enc w base spare held fuel cs x hf hx
 refine ⟨g a, ?_, by show ok (f (g a)); rw [hg]; exact h2⟩
 show d.K w (f (g a)) cs
 rw [hg]
 exact h1
theorem opens_isoT {P : Program} {T : TypeId} {α β : Type} {d : Kd α} {ok : α → Prop} {n : Nat} {f : β → α} (g : α → β) (hg : ∀ a, f (g a) = a) (h : Opens P T d ok n) : Opens P T (Kd.iso d f) (fun _ => True) n := (opens_iso g hg h).weak (fun _ _ => trivial)
theorem opens24 (n : Nat) : Opens Try.prog 24 k24 (fun _ => True) (n + 1) :=
  opens_isoT (fun p => ⟨p.1, p.2.1, p.2.2⟩) (fun _ => rfl) (opens_struct Try.underlying24 (by kernel_rfl)
    (opens_next (opens_bool Try.underlying4 n) (by kernel_rfl) (opens_next (opens_int Try.underlying2 n) (by kernel_rfl) (opens_last (opens_string Try.underlying9 n) (by kernel_rfl) rfl rfl) rfl rfl) rfl rfl))
theorem opens64 (n : Nat) : Opens Try.prog 64 k64 (fun _ => True) (n + 1) :=
  opens_isoT (fun p => ⟨p.1, p.2.1, p.2.2⟩) (fun _ => rfl) (opens_struct Try.underlying64 (by kernel_rfl)
    (opens_next (opens_string Try.underlying9 n) (by kernel_rfl) (opens_next (opens_int Try.underlying3 n) (by kernel_rfl) (opens_last (opens_bool Try.underlying4 n) (by kernel_rfl) rfl rfl) rfl rfl) rfl rfl))
theorem opens27' (n : Nat) : Opens Try.prog 27 (Kd.upto F27 9 [27] n) (fun _ => True) n := by
  induction n with
  | zero =>
    constructor
    intro H enc w base spare held fuel cs x hf hx
    obtain rfl : fuel = 0 := by omega
    simp [DataW.trod] at hx
  | succ n ih =>
    show Opens Try.prog 27 (F27 (Kd.upto F27 9 [27] n)) _ _
    unfold F27
    exact opens_isoT (f := fun x : S27 => (x.f0, x.f1, x.f2, x.f3, x.f4, x.f5, x.f6)) (fun p => ⟨p.1, p.2.1, p.2.2.1, p.2.2.2.1, p.2.2.2.2.1, p.2.2.2.2.2.1, p.2.2.2.2.2.2⟩) (fun _ => rfl) (opens_struct Try.underlying27 (by kernel_rfl)
      (opens_next (opens_int Try.underlying3 _) (by kernel_rfl) (opens_next (opens_string Try.underlying9 _) (by kernel_rfl) (opens_next (opens_int Try.underlying3 _) (by kernel_rfl) (opens_next ((opens24 n).le (Nat.le_succ n)) (by kernel_rfl)
        (opens_next (opens_int Try.underlying3 _) (by kernel_rfl) (opens_next (opens_string Try.underlying9 _) (by kernel_rfl) (opens_last ((opens_slice Try.underlying25 ((by kernel_rfl : Try.prog.cellsOf 27 = 9).trans (sz27 n).symm) ih).le (Nat.le_succ n)) (by kernel_rfl)
          rfl rfl) rfl rfl) rfl rfl) rfl rfl) rfl rfl) rfl rfl) rfl rfl))
theorem opens27 (n : Nat) : Opens Try.prog 27 k27 (fun _ => True) n := by
 constructor
 intro H enc w base spare held fuel cs x hf hx
 obtain ⟨a, h, _⟩ := (opens27' n).go H enc w base spare held fuel cs x hf hx
 exact ⟨a, ⟨n, h⟩, trivial⟩
def idxOf {α : Type} (p : α → Bool) : List α → Int
  | [] => -1
  | x :: l => if p x then 0 else let r := idxOf p l; if r < 0 then -1 else r + 1
theorem idxOf_hit {α : Type} (p : α → Bool) : ∀ (l : List α) (k : Nat) (x : α), l[k]? = some x → p x = true → (∀ (j : Nat) (y : α), j < k → l[j]? = some y → p y = false) → idxOf p l = k
  | [], k, x, h, _, _ => by simp at h
  | y :: l, 0, x, h, hp, _ => by
    simp at h; subst h; simp [idxOf, hp]
  | y :: l, k + 1, x, h, hp, ha => by
    have h0 := ha 0 y (by omega) rfl
    have ih := idxOf_hit p l k x (by simpa using h) hp (fun j z hj hz => ha (j + 1) z (by omega) (by simpa using hz))
    simp only [idxOf, h0, ih]
    have : ¬ ((k : Int) < 0) := by omega
    simp [this]
theorem idxOf_miss {α : Type} (p : α → Bool) : ∀ (l : List α), (∀ (j : Nat) (y : α), l[j]? = some y → p y = false) → idxOf p l = -1
  | [], _ => rfl
  | y :: l, ha => by
    have h0 := ha 0 y rfl
    have ih := idxOf_miss p l (fun j z hz => ha (j + 1) z (by simpa using hz))
    simp [idxOf, h0, ih]
theorem idxOf_any {α : Type} (p : α → Bool) : ∀ (l : List α), decide (0 ≤ idxOf p l) = l.any p
  | [] => by simp [idxOf]
  | y :: l => by
    have ih := idxOf_any p l
    cases h : p y
    · simp only [idxOf, h, List.any_cons, Bool.false_or, ← ih]
      by_cases h1 : idxOf p l < 0
      · have : ¬ (0 ≤ idxOf p l) := by omega
        simp [h1, this]
      · have : 0 ≤ idxOf p l := by omega
        have h2 : 0 ≤ idxOf p l + 1 := by omega
        simp [h1, this, h2]
    · simp [idxOf, h]
def Ans {α : Type} (o : Option α) : Prop := ∃ b, o = some b
theorem Ans.some_ {α : Type} (b : α) : Ans (some b) := ⟨b, rfl⟩
theorem Ans.ite {α : Type} {c : Prop} [Decidable c] {a b : Option α} (h : Ans a) (k : Ans b) : Ans (if c then a else b) := by
 split
 ·exact h
 ·exact k
theorem Ans.bind {α β : Type} {a : Option α} {f : α → Option β} (h : Ans a) (k : ∀ x, Ans (f x)) : Ans (a.bind f) := by
 obtain ⟨x, rfl⟩ := h
 exact k x
theorem Ans.getD {α : Type} {o : Option α} (h : Ans o) (d : α) : o = some (o.getD d) := by
 obtain ⟨b, rfl⟩ := h
 rfl
theorem idxOf_lt {α : Type} (p : α → Bool) : ∀ (l : List α), idxOf p l < l.length
  | [] => by simp [idxOf]
  | y :: l => by
    have ih := idxOf_lt p l
    simp only [idxOf, List.length_cons]
    split
    · omega
    · split <;> omega
def evL {σ : Type} (f : S27 → σ → Bool × σ) : List S27 → σ → Bool × σ
  | [], s => (true, s)
  | x :: r, s => if (f x s).1 then evL f r (f x s).2 else (false, (f x s).2)
def ev {σ : Type} (st : S27 → σ → Bool × σ) : Nat → S27 → σ → Bool × σ
  | 0, _, s => (false, s)
  | d + 1, x, s => if (st x s).1 then evL (ev st d) x.f6 (st x s).2 else (false, (st x s).2)
def Steps {σ : Type} (st : S27 → σ → Bool × σ) (g : Nat) (lb : Array Value) (B : Nat) (w0 : World) (Inv : σ → World → Prop) : Prop :=
  ∀ (W : World) (s : σ) (x : S27) (A8 : Option Addr) (c8 : Nat), Below w0.heap.size w0 W → B < W.heap.size → Inv s W → x.f6.length ≤ c8 → Kd.C k27 w0 A8 x.f6.length x.f6 →
    Calls Try.prog g (#[.agg #[.int .i64 x.f0, .string x.f1, .int .i64 x.f2, .bool x.f3.f0, .int .i64 x.f3.f1, .string x.f3.f2, .int .i64 x.f4, .string x.f5, .slice A8 x.f6.length c8]] ++ lb) W fun e W' => e = .returned (.bool (st x s).1) ∧ Inv (st x s).2 W' ∧ Below w0.heap.size w0 W' ∧ KeepBut W W' B none
set_option maxHeartbeats 4000000 in
theorem pred_every.at {σ : Type} (st : S27 → σ → Bool × σ) (g : Nat) (lb : Array Value) (eg : ∀ args w, (callFunc g args).run Try.prog w = .ok (.enter g args) w) (B : Nat) (w0 : World) (hB0 : w0.heap.size ≤ B) (Inv : σ → World → Prop)
    (hIa : ∀ s W o, Inv s W → Inv s (W.alloc o)) (hst : Steps st g lb B w0 Inv) :
    ∀ (d : Nat) (x : S27) (A8 : Option Addr) (c8 : Nat) (s : σ) (W : World), d ≤ 1000 → Below w0.heap.size w0 W → B < W.heap.size → Inv s W → x.f6.length ≤ c8 → Kd.C k27 w0 A8 x.f6.length x.f6 →
    Calls Try.prog 45 #[.agg #[.int .i64 x.f0, .string x.f1, .int .i64 x.f2, .bool x.f3.f0, .int .i64 x.f3.f1, .string x.f3.f2, .int .i64 x.f4, .string x.f5, .slice A8 x.f6.length c8], .int .i64 (d : Int), .func (.func g) #[] lb] W fun e W' => e = .returned (.bool (ev st d x s).1) ∧ Inv (ev st d x s).2 W' ∧ Below w0.heap.size w0 W' ∧ KeepBut W W' B none := by
  intro d
  induction d with
  | zero =>
    intro x A8 c8 s W hd hw hB hI hl hk
    have HW := Aa.mk hw
    have HI := Aa.mk (hIa s W (.cells #[.int .i64 x.f0, .string x.f1, .int .i64 x.f2, .bool x.f3.f0, .int .i64 x.f3.f1, .string x.f3.f2, .int .i64 x.f4, .string x.f5, .slice A8 x.f6.length c8] 27) hI)
    have hu := Try.underlying27
    clear hw hI hk
    go_enter Try.func45, Try.ntmps45
    go_wp2
    go_ret
    exact ⟨rfl, HI.out, Ak HW.out _, keep_alloc (KeepBut.refl W B none) _⟩
  | succ d ih =>
    intro x A8 c8 s W hd hw hB hI hl hk
    have hu := Try.underlying27
    have hm := Kd.C_max hk
    have hd1 : ¬ ((d : Int) + 1 < 1) := by omega
    have hcall := hst (W.alloc (.cells #[.int .i64 x.f0, .string x.f1, .int .i64 x.f2, .bool x.f3.f0, .int .i64 x.f3.f1, .string x.f3.f2, .int .i64 x.f4, .string x.f5, .slice A8 x.f6.length c8] 27)) s x A8 c8 (Ak hw _) (by simp; omega) (hIa s W _ hI) hl hk
    have IH := Aa.mk ih
    have HW := Aa.mk hw
    have HK := Aa.mk hk
    have HI := Aa.mk hI
    have HS := Aa.mk hst
    generalize hres : ev st (d + 1) x s = res
    rw [ev] at hres
    have HE := Aa.mk hres
    have hd2 : decide ((d : Int) + 1 < 1) = false := decide_eq_false hd1
    clear hres hst ih hw hk hI hd1
    cases hb1 : (st x s).1 with
    | false =>
      rw [hb1] at hcall
      have hr : res = (false, (st x s).2) := by rw [← HE.out, hb1]; rfl
      clear HE hb1
      generalize (st x s).2 = s1 at hcall hr
      subst hr
      go_enter Try.func45, Try.ntmps45
      go_wp2_with (go_at_fn g; refine hcall.mono ?_; rintro e w' ⟨rfl, hI', hb', hk'⟩)
      go_ret
      exact ⟨rfl, hI', hb', (keep_alloc (KeepBut.refl W B none) _).trans hk' (.inl rfl)⟩
    | true =>
      rw [hb1] at hcall
      have hr : evL (ev st d) x.f6 (st x s).2 = res := by rw [← HE.out, hb1]; rfl
      clear HE hb1
      generalize (st x s).2 = s1 at hcall hr
      have HE := Aa.mk hr
      clear hr
      go_enter Try.func45, Try.ntmps45
      go_wp2_with fail
      refine hcall.mono ?_
      rintro e w1 ⟨rfl, hI1, hb1, hk1⟩
      have hz8 : w1.cell? ⟨W.heap.size, 8, none⟩ = some (.slice A8 x.f6.length c8) := (Ab (hk1.blk (heap_alloc_new W _) (by omega) (by simp)) 8).trans rfl
      have HK1 := Aa.mk ((keep_alloc (KeepBut.refl W B none) _).trans hk1 (.inl rfl))
      have HB1 := Aa.mk hb1
      have HI1 := Aa.mk hI1
      clear hcall hk1 hb1 hI1
      go_wp2
      go_loopg [20] x.f6.length (fun gk v20 wr => ∃ (kk : Nat) (sk : σ), kk ≤ x.f6.length ∧ x.f6.length - kk ≤ gk ∧ v20 = .int .i64 kk ∧ Aa (Inv sk wr) ∧ Aa (Below w0.heap.size w0 wr) ∧ Aa (KeepBut W wr B none) ∧ Aa (evL (ev st d) (x.f6.drop kk) sk = res))
      case atStart => exact ⟨0, s1, Nat.zero_le _, by omega, rfl, HI1, HB1, HK1, ⟨by rw [List.drop_zero]; exact HE.out⟩⟩
      case round =>
        clear HE HI1 HB1 HK1 hz8
        obtain ⟨kk, sk, hkk, hgk, rfl, HI1, HB1, HK1, HE⟩ := hrel
        by_cases hlt : kk < x.f6.length
        · have hltz : (kk : Int) < (x.f6.length : Int) := by omega
          obtain ⟨ad, A8', c8', e, h0, h1, h2, h3, h4, h5, h6, h7, h8, hl8, hk8⟩ := at_T27 HK.out (kk : Int) (by omega) (by omega)
          cases e
          simp only [Int.toNat_natCast] at h0 h1 h2 h3 h4 h5 h6 h7 h8
          replace h0 := Cq HB1.out h0
          replace h1 := Cq HB1.out h1
          replace h2 := Cq HB1.out h2
          replace h3 := Cq HB1.out h3
          replace h4 := Cq HB1.out h4
          replace h5 := Cq HB1.out h5
          replace h6 := Cq HB1.out h6
          replace h7 := Cq HB1.out h7
          replace h8 := Cq HB1.out h8
          have hx : x.f6.drop kk = Al x.f6 kk :: x.f6.drop (kk + 1) := by
            rw [List.drop_eq_getElem_cons hlt]
            simp [Al, List.getElem?_eq_getElem hlt, List.getD_eq_getElem?_getD]
          have hE := HE.out
          rw [hx, evL] at hE
          have hcall := IH.out (Al x.f6 kk) A8' c8' sk (wr.alloc (.cells #[.int .i64 (Al x.f6 kk).f0, .string (Al x.f6 kk).f1, .int .i64 (Al x.f6 kk).f2, .bool (Al x.f6 kk).f3.f0, .int .i64 (Al x.f6 kk).f3.f1, .string (Al x.f6 kk).f3.f2, .int .i64 (Al x.f6 kk).f4, .string (Al x.f6 kk).f5, .slice A8' (Al x.f6 kk).f6.length c8'] 27)) (by omega) (Ak HB1.out _) (by have := HK1.out.1; simp; omega) (hIa _ _ _ HI1.out) hl8 hk8
          have HL8 := Aa.mk hl8
          have HX := Aa.mk hx
          clear hx hl8 hk8 HE
          generalize Al x.f6 kk = y at h0 h1 h2 h3 h4 h5 h6 h7 h8 hcall hE HL8
          generalize ev st d y sk = q at hcall hE
          obtain ⟨qb, qs⟩ := q
          have hE' : (if qb = true then evL (ev st d) (x.f6.drop (kk + 1)) qs else (false, qs)) = res := hE
          have HE := Aa.mk hE'
          clear hE hE'
          go_wp2_with fail
          refine hcall.mono ?_
          rintro e w2 ⟨rfl, hI2, hb2, hk2⟩
          have HI2 := Aa.mk hI2
          have HB2 := Aa.mk hb2
          have HK2 := Aa.mk (HK1.out.trans ((keep_alloc (KeepBut.refl wr B none) _).trans hk2 (.inl rfl)) (.inl rfl))
          clear hI2 hb2 hk2 hcall
          cases qb with
          | true =>
            go_wp2
            go_roundg (x.f6.length - (kk + 1))
            case measure => omega
            case rel => exact ⟨kk + 1, qs, by omega, Nat.le_refl _, by go_num, HI2, HB2, HK2, ⟨by have := HE.out; simpa using this⟩⟩
          | false =>
            have hr : (false, qs) = res := by have := HE.out; simpa using this
            subst hr
            go_wp2
            go_ret
            exact ⟨rfl, HI2.out, HB2.out, HK2.out⟩
        · have hltz : ¬ (kk : Int) < (x.f6.length : Int) := by omega
          have hr : (true, sk) = res := by have := HE.out; rw [List.drop_eq_nil_of_le (by omega), evL] at this; exact this
          subst hr
          go_wp2
          go_ret
          exact ⟨rfl, HI1.out, HB1.out, HK1.out⟩
theorem eqA24 (d : Nat) (w : World) (x0 y0 : Bool) (x1 y1 : Int) (x2 y2 : ByteArray) :
    (Op.equalIn (d + 2) 24 (.agg #[.bool x0, .int .i64 x1, .string x2]) (.agg #[.bool y0, .int .i64 y1, .string y2])).run Try.prog w = .ok (x0 == y0 && (x1 == y1 && (x2.toList == y2.toList))) w := by
 refine eqA_of Try.underlying24 (by kernel_rfl) ?_
 refine eqf_cons (by rfl) (by go_simp; rfl) (by go_simp; rfl) (by go_simp) ?_
 refine eqf_cons (by rfl) (by go_simp; rfl) (by go_simp; rfl) (by go_simp) ?_
 exact eqf_last (by rfl) (by go_simp; rfl) (by go_simp; rfl) (by go_simp)
attribute [local go_sem high] eqA24
def Br.f (a0 : Int) (a1 : Bool) (a2_0 : Bool) (a2_1 : Int) (a2_2 : ByteArray) : Option (Bool) := if a2_0 = true then (if a1 = true then (if a0 ≥ 1 then (if a0 ≤ 3 then (some (a2_0 && (a2_1 == 0 && (a2_2.toList.isEmpty)))) else (some false)) else (some false)) else (some false)) else (if a0 = 1 then (some (a2_2.toList == ([] : List UInt8))) else (if a0 = 2 then (if a2_2.toList = ([] : List UInt8) then (if a2_1 = 0 then (some true) else (some (a2_1 == 1))) else (some false)) else (if a0 = 3 then (if a2_1 = 0 then (some (decide ((a2_2.size : Int) ≤ 40))) else (some false)) else (some false))))
theorem Br.calls (a0 : Int) (a1 : Bool) (a2_0 : Bool) (a2_1 : Int) (a2_2 : ByteArray) (r : Bool) (w : World) (h : Br.f a0 a1 a2_0 a2_1 a2_2 = some r) :
  Calls Try.prog 49 #[.int .i64 a0, .bool a1, .agg #[.bool a2_0, .int .i64 a2_1, .string a2_2]] w fun e w' => e = .returned (.bool r) ∧ Below w.heap.size w w' := by
 have hu24 := Try.underlying24
 have HB := Aa.mk (Below.refl w.heap.size w)
 have H : (if a2_0 = true then (if a1 = true then (if a0 ≥ 1 then (if a0 ≤ 3 then (some (a2_0 && (a2_1 == 0 && (a2_2.toList.isEmpty)))) else (some false)) else (some false)) else (some false)) else (if a0 = 1 then (some (a2_2.toList == ([] : List UInt8))) else (if a0 = 2 then (if a2_2.toList = ([] : List UInt8) then (if a2_1 = 0 then (some true) else (some (a2_1 == 1))) else (some false)) else (if a0 = 3 then (if a2_1 = 0 then (some (decide ((a2_2.size : Int) ≤ 40))) else (some false)) else (some false))))) = some r := h
 clear h
 by_cases c4 : a2_0 = true
 ·(
 subst c4
 have H1 : (if a1 = true then (if a0 ≥ 1 then (if a0 ≤ 3 then (some (true && (a2_1 == 0 && (a2_2.toList.isEmpty)))) else (some false)) else (some false)) else (some false)) = some r := by rw [if_pos rfl] at H; exact H
 clear H
 have H := H1
 clear H1
 by_cases c5 : a1 = true
 rotate_left
 focus(
 replace c5 := Dq c5
 subst c5
 have H1 : (some false) = some r := by rw [if_neg (show ¬ (false = true) by decide)] at H; exact H
 clear H
 have H := H1
 clear H1)
 rotate_right
 focus(
 subst c5
 have H1 : (if a0 ≥ 1 then (if a0 ≤ 3 then (some (true && (a2_1 == 0 && (a2_2.toList.isEmpty)))) else (some false)) else (some false)) = some r := by rw [if_pos rfl] at H; exact H
 clear H
 have H := H1
 clear H1
 by_cases c6 : a0 ≥ 1
 rotate_left
 focus(
 rw [if_neg c6] at H
 have c6b0 : decide (1 ≤ a0) = false := decide_eq_false c6
 clear c6)
 rotate_right
 focus(
 rw [if_pos c6] at H
 have c6b0 : decide (1 ≤ a0) = true := decide_eq_true c6
 clear c6
 by_cases c7 : a0 ≤ 3
 rotate_left
 focus(
 rw [if_neg c7] at H
 have c7b0 : decide (a0 ≤ 3) = false := decide_eq_false c7)
 rotate_right
 focus(
 rw [if_pos c7] at H
 have c7b0 : decide (a0 ≤ 3) = true := decide_eq_true c7)
 all_goals clear c7))
 all_goals(
 obtain rfl := Dp H
 go_enter Try.func49, Try.ntmps49
 go_wp2_with (first | ((with_reducible refine Cv (N := 5) rfl ?_); (try (refine Cy (by rfl) ?_; dsimp only)); refine bx_ (N := 5) (cs := #[.bool true, .int .i64 a2_1, .string a2_2]) (t := 24) ?_; intro gb105 hg w8 hbox hb; have BK105 := Aa.mk (hbox); have GW105 := ge_ HB hg; have GE105 := ge_ HB hg; replace HB := bs_ HB hb; clear hb hbox hg; obtain ⟨C9_0, C9_1, C9_2⟩ := zc3_ BK105.out; obtain ⟨F9_0, F9_1, F9_2⟩ := zf3_ BK105.out))
 go_ret
 exact en_ HB))
 ·(
 replace c4 := Dq c4
 subst c4
 have H1 : (if a0 = 1 then (some (a2_2.toList == ([] : List UInt8))) else (if a0 = 2 then (if a2_2.toList = ([] : List UInt8) then (if a2_1 = 0 then (some true) else (some (a2_1 == 1))) else (some false)) else (if a0 = 3 then (if a2_1 = 0 then (some (decide ((a2_2.size : Int) ≤ 40))) else (some false)) else (some false)))) = some r := by rw [if_neg (show ¬ (false = true) by decide)] at H; exact H
 clear H
 have H := H1
 clear H1
 by_cases c16 : a0 = 1
 rotate_left
 focus(
 rw [if_neg c16] at H
 have c16b0 : (a0 == 1) = false := Dj c16
 have c16b1 : (a0 != 1) = true := Dm c16
 by_cases c19 : a0 = 2
 rotate_left
 focus(
 rw [if_neg c19] at H
 have c19b0 : (a0 == 2) = false := Dj c19
 have c19b1 : (a0 != 2) = true := Dm c19
 by_cases c28 : a0 = 3
 rotate_left
 focus(
 rw [if_neg c28] at H
 have c28b0 : (a0 == 3) = false := Dj c28
 have c28b1 : (a0 != 3) = true := Dm c28)
 rotate_right
 focus(
 rw [if_pos c28] at H
 have c28b0 : (a0 == 3) = true := Dl c28
 have c28b1 : (a0 != 3) = false := Dk c28
 clear c28
 by_cases c29 : a2_1 = 0
 rotate_left
 focus(
 rw [if_neg c29] at H
 have c29b0 : (a2_1 == 0) = false := Dj c29
 have c29b1 : (a2_1 != 0) = true := Dm c29)
 rotate_right
 focus(
 rw [if_pos c29] at H
 have c29b0 : (a2_1 == 0) = true := Dl c29
 have c29b1 : (a2_1 != 0) = false := Dk c29
 clear c29)))
 rotate_right
 focus(
 rw [if_pos c19] at H
 have c19b0 : (a0 == 2) = true := Dl c19
 have c19b1 : (a0 != 2) = false := Dk c19
 clear c19
 by_cases c20 : a2_2.toList = ([] : List UInt8)
 rotate_left
 focus(
 rw [if_neg c20] at H
 have c20b0 : a2_2.toList.isEmpty = false := by simpa using c20
 have c20b1 : (a2_2.toList == ([] : List UInt8)) = false := Dj c20
 have c20b2 : (a2_2.toList != ([] : List UInt8)) = true := Dm c20
 have c20b3 : ¬ (a2_2.toList = ([] : List UInt8)) := c20)
 rotate_right
 focus(
 rw [if_pos c20] at H
 have c20b0 : a2_2.toList.isEmpty = true := by simpa using c20
 have c20b1 : (a2_2.toList == ([] : List UInt8)) = true := Dl c20
 have c20b2 : (a2_2.toList != ([] : List UInt8)) = false := Dk c20
 have c20b3 : (a2_2.toList = ([] : List UInt8)) := c20
 clear c20
 by_cases c21 : a2_1 = 0
 rotate_left
 focus(
 rw [if_neg c21] at H
 have c21b0 : (a2_1 == 0) = false := Dj c21
 have c21b1 : (a2_1 != 0) = true := Dm c21)
 rotate_right
 focus(
 rw [if_pos c21] at H
 have c21b0 : (a2_1 == 0) = true := Dl c21
 have c21b1 : (a2_1 != 0) = false := Dk c21
 clear c21))))
 rotate_right
 focus(
 rw [if_pos c16] at H
 have c16b0 : (a0 == 1) = true := Dl c16
 have c16b1 : (a0 != 1) = false := Dk c16
 clear c16)
 all_goals(
 obtain rfl := Dp H
 go_enter Try.func49, Try.ntmps49
 go_wp2_with (first | ((with_reducible refine Cv (N := 5) rfl ?_); (try (refine Cy (by rfl) ?_; dsimp only)); refine bx_ (N := 5) (cs := #[.bool false, .int .i64 a2_1, .string a2_2]) (t := 24) ?_; intro gb105 hg w17 hbox hb; have BK105 := Aa.mk (hbox); have GW105 := ge_ HB hg; have GE105 := ge_ HB hg; replace HB := bs_ HB hb; clear hb hbox hg; obtain ⟨C18_0, C18_1, C18_2⟩ := zc3_ BK105.out; obtain ⟨F18_0, F18_1, F18_2⟩ := zf3_ BK105.out))
 go_ret
 exact en_ HB))
def okB (first : Bool) (b : UInt8) : Bool := (decide (97 ≤ b.toNat) && decide (b.toNat ≤ 122)) || (!first && ((decide (48 ≤ b.toNat) && decide (b.toNat ≤ 57)) || b.toNat == 95))
def nameOk : Bool → List UInt8 → Bool
  | _, [] => true
  | f, b :: l => okB f b && nameOk false l
theorem drop_byte (s : ByteArray) (pos : Nat) (h : pos < s.size) : s.data.toList.drop pos = s[pos] :: s.data.toList.drop (pos + 1) := by
 rw [List.drop_eq_getElem_cons (by simpa using h)]; rfl
theorem width_pos (s : ByteArray) (pos : Nat) (h : pos < s.size) : 1 ≤ (Utf8.decode s pos).2 := by
 by_cases ha : (s[pos]'h).toNat < 128
 ·(
 rw [decode_ascii s pos h ha]
 exact Nat.le_refl _)
 ·exact (decode_high s pos h (by omega)).2
def Cz.f (a0 : ByteArray) : Option (Bool) := if a0.toList = ([97, 110, 100] : List UInt8) then (some true) else (if a0.toList = ([111, 114] : List UInt8) then (some true) else (if a0.toList = ([110, 111, 116] : List UInt8) then (some true) else (if a0.toList = ([105, 115] : List UInt8) then (some true) else (if a0.toList = ([110, 117, 108, 108] : List UInt8) then (some true) else (if a0.toList = ([108, 105, 107, 101] : List UInt8) then (some true) else (if a0.toList = ([116, 114, 117, 101] : List UInt8) then (some true) else (if a0.toList = ([102, 97, 108, 115, 101] : List UInt8) then (some true) else (if a0.toList = ([115, 101, 108, 101, 99, 116] : List UInt8) then (some true) else (if a0.toList = ([102, 114, 111, 109] : List UInt8) then (some true) else (if a0.toList = ([119, 104, 101, 114, 101] : List UInt8) then (some true) else (if a0.toList = ([103, 114, 111, 117, 112] : List UInt8) then (some true) else (if a0.toList = ([98, 121] : List UInt8) then (some true) else (if a0.toList = ([97, 108, 108] : List UInt8) then (some true) else (if a0.toList = ([99, 111, 117, 110, 116] : List UInt8) then (some true) else (if a0.toList = ([104, 97, 115] : List UInt8) then (some true) else (if a0.toList = ([115, 117, 109] : List UInt8) then (some true) else (if a0.toList = ([109, 105, 110] : List UInt8) then (some true) else (if a0.toList = ([109, 97, 120] : List UInt8) then (some true) else (some false)))))))))))))))))))
theorem Cz.calls (a0 : ByteArray) (r : Bool) (w : World) (h : Cz.f a0 = some r) :
  Calls Try.prog 92 #[.string a0] w fun e w' => e = .returned (.bool r) ∧ Bp w w' := by
 have H : (if a0.toList = ([97, 110, 100] : List UInt8) then (some true) else (if a0.toList = ([111, 114] : List UInt8) then (some true) else (if a0.toList = ([110, 111, 116] : List UInt8) then (some true) else (if a0.toList = ([105, 115] : List UInt8) then (some true) else (if a0.toList = ([110, 117, 108, 108] : List UInt8) then (some true) else (if a0.toList = ([108, 105, 107, 101] : List UInt8) then (some true) else (if a0.toList = ([116, 114, 117, 101] : List UInt8) then (some true) else (if a0.toList = ([102, 97, 108, 115, 101] : List UInt8) then (some true) else (if a0.toList = ([115, 101, 108, 101, 99, 116] : List UInt8) then (some true) else (if a0.toList = ([102, 114, 111, 109] : List UInt8) then (some true) else (if a0.toList = ([119, 104, 101, 114, 101] : List UInt8) then (some true) else (if a0.toList = ([103, 114, 111, 117, 112] : List UInt8) then (some true) else (if a0.toList = ([98, 121] : List UInt8) then (some true) else (if a0.toList = ([97, 108, 108] : List UInt8) then (some true) else (if a0.toList = ([99, 111, 117, 110, 116] : List UInt8) then (some true) else (if a0.toList = ([104, 97, 115] : List UInt8) then (some true) else (if a0.toList = ([115, 117, 109] : List UInt8) then (some true) else (if a0.toList = ([109, 105, 110] : List UInt8) then (some true) else (if a0.toList = ([109, 97, 120] : List UInt8) then (some true) else (some false)))))))))))))))))))) = some r := h
 clear h
 by_cases c2 : a0.toList = ([97, 110, 100] : List UInt8)
 rotate_left
 focus(
 rw [if_neg c2] at H
 have c2b0 : (a0.toList == ([97, 110, 100] : List UInt8)) = false := Dj c2
 have c2b1 : (a0.toList != ([97, 110, 100] : List UInt8)) = true := Dm c2
 by_cases c3 : a0.toList = ([111, 114] : List UInt8)
 rotate_left
 focus(
 rw [if_neg c3] at H
 have c3b0 : (a0.toList == ([111, 114] : List UInt8)) = false := Dj c3
 have c3b1 : (a0.toList != ([111, 114] : List UInt8)) = true := Dm c3
 by_cases c4 : a0.toList = ([110, 111, 116] : List UInt8)
 rotate_left
 focus(
 rw [if_neg c4] at H
 have c4b0 : (a0.toList == ([110, 111, 116] : List UInt8)) = false := Dj c4
 have c4b1 : (a0.toList != ([110, 111, 116] : List UInt8)) = true := Dm c4
 by_cases c5 : a0.toList = ([105, 115] : List UInt8)
 rotate_left
 focus(
 rw [if_neg c5] at H
 have c5b0 : (a0.toList == ([105, 115] : List UInt8)) = false := Dj c5
 have c5b1 : (a0.toList != ([105, 115] : List UInt8)) = true := Dm c5
 by_cases c6 : a0.toList = ([110, 117, 108, 108] : List UInt8)
 rotate_left
 focus(
 rw [if_neg c6] at H
 have c6b0 : (a0.toList == ([110, 117, 108, 108] : List UInt8)) = false := Dj c6
 have c6b1 : (a0.toList != ([110, 117, 108, 108] : List UInt8)) = true := Dm c6
 by_cases c7 : a0.toList = ([108, 105, 107, 101] : List UInt8)
 rotate_left
 focus(
 rw [if_neg c7] at H
 have c7b0 : (a0.toList == ([108, 105, 107, 101] : List UInt8)) = false := Dj c7
 have c7b1 : (a0.toList != ([108, 105, 107, 101] : List UInt8)) = true := Dm c7
 by_cases c8 : a0.toList = ([116, 114, 117, 101] : List UInt8)
 rotate_left
 focus(
 rw [if_neg c8] at H
 have c8b0 : (a0.toList == ([116, 114, 117, 101] : List UInt8)) = false := Dj c8
 have c8b1 : (a0.toList != ([116, 114, 117, 101] : List UInt8)) = true := Dm c8
 by_cases c9 : a0.toList = ([102, 97, 108, 115, 101] : List UInt8)
 rotate_left
 focus(
 rw [if_neg c9] at H
 have c9b0 : (a0.toList == ([102, 97, 108, 115, 101] : List UInt8)) = false := Dj c9
 have c9b1 : (a0.toList != ([102, 97, 108, 115, 101] : List UInt8)) = true := Dm c9
 by_cases c10 : a0.toList = ([115, 101, 108, 101, 99, 116] : List UInt8)
 rotate_left
 focus(
 rw [if_neg c10] at H
 have c10b0 : (a0.toList == ([115, 101, 108, 101, 99, 116] : List UInt8)) = false := Dj c10
 have c10b1 : (a0.toList != ([115, 101, 108, 101, 99, 116] : List UInt8)) = true := Dm c10
 by_cases c11 : a0.toList = ([102, 114, 111, 109] : List UInt8)
 rotate_left
 focus(
 rw [if_neg c11] at H
 have c11b0 : (a0.toList == ([102, 114, 111, 109] : List UInt8)) = false := Dj c11
 have c11b1 : (a0.toList != ([102, 114, 111, 109] : List UInt8)) = true := Dm c11
 by_cases c12 : a0.toList = ([119, 104, 101, 114, 101] : List UInt8)
 rotate_left
 focus(
 rw [if_neg c12] at H
 have c12b0 : (a0.toList == ([119, 104, 101, 114, 101] : List UInt8)) = false := Dj c12
 have c12b1 : (a0.toList != ([119, 104, 101, 114, 101] : List UInt8)) = true := Dm c12
 by_cases c13 : a0.toList = ([103, 114, 111, 117, 112] : List UInt8)
 rotate_left
 focus(
 rw [if_neg c13] at H
 have c13b0 : (a0.toList == ([103, 114, 111, 117, 112] : List UInt8)) = false := Dj c13
 have c13b1 : (a0.toList != ([103, 114, 111, 117, 112] : List UInt8)) = true := Dm c13
 by_cases c14 : a0.toList = ([98, 121] : List UInt8)
 rotate_left
 focus(
 rw [if_neg c14] at H
 have c14b0 : (a0.toList == ([98, 121] : List UInt8)) = false := Dj c14
 have c14b1 : (a0.toList != ([98, 121] : List UInt8)) = true := Dm c14
 by_cases c15 : a0.toList = ([97, 108, 108] : List UInt8)
 rotate_left
 focus(
 rw [if_neg c15] at H
 have c15b0 : (a0.toList == ([97, 108, 108] : List UInt8)) = false := Dj c15
 have c15b1 : (a0.toList != ([97, 108, 108] : List UInt8)) = true := Dm c15
 by_cases c16 : a0.toList = ([99, 111, 117, 110, 116] : List UInt8)
 rotate_left
 focus(
 rw [if_neg c16] at H
 have c16b0 : (a0.toList == ([99, 111, 117, 110, 116] : List UInt8)) = false := Dj c16
 have c16b1 : (a0.toList != ([99, 111, 117, 110, 116] : List UInt8)) = true := Dm c16
 by_cases c17 : a0.toList = ([104, 97, 115] : List UInt8)
 rotate_left
 focus(
 rw [if_neg c17] at H
 have c17b0 : (a0.toList == ([104, 97, 115] : List UInt8)) = false := Dj c17
 have c17b1 : (a0.toList != ([104, 97, 115] : List UInt8)) = true := Dm c17
 by_cases c18 : a0.toList = ([115, 117, 109] : List UInt8)
 rotate_left
 focus(
 rw [if_neg c18] at H
 have c18b0 : (a0.toList == ([115, 117, 109] : List UInt8)) = false := Dj c18
 have c18b1 : (a0.toList != ([115, 117, 109] : List UInt8)) = true := Dm c18
 by_cases c19 : a0.toList = ([109, 105, 110] : List UInt8)
 rotate_left
 focus(
 rw [if_neg c19] at H
 have c19b0 : (a0.toList == ([109, 105, 110] : List UInt8)) = false := Dj c19
 have c19b1 : (a0.toList != ([109, 105, 110] : List UInt8)) = true := Dm c19
 by_cases c20 : a0.toList = ([109, 97, 120] : List UInt8)
 rotate_left
 focus(
 rw [if_neg c20] at H
 have c20b0 : (a0.toList == ([109, 97, 120] : List UInt8)) = false := Dj c20
 have c20b1 : (a0.toList != ([109, 97, 120] : List UInt8)) = true := Dm c20)
 rotate_right
 focus(
 rw [if_pos c20] at H
 have c20b0 : (a0.toList == ([109, 97, 120] : List UInt8)) = true := Dl c20
 have c20b1 : (a0.toList != ([109, 97, 120] : List UInt8)) = false := Dk c20
 clear c20))
 rotate_right
 focus(
 rw [if_pos c19] at H
 have c19b0 : (a0.toList == ([109, 105, 110] : List UInt8)) = true := Dl c19
 have c19b1 : (a0.toList != ([109, 105, 110] : List UInt8)) = false := Dk c19
 clear c19))
 rotate_right
 focus(
 rw [if_pos c18] at H
 have c18b0 : (a0.toList == ([115, 117, 109] : List UInt8)) = true := Dl c18
 have c18b1 : (a0.toList != ([115, 117, 109] : List UInt8)) = false := Dk c18
 clear c18))
 rotate_right
 focus(
 rw [if_pos c17] at H
 have c17b0 : (a0.toList == ([104, 97, 115] : List UInt8)) = true := Dl c17
 have c17b1 : (a0.toList != ([104, 97, 115] : List UInt8)) = false := Dk c17
 clear c17))
 rotate_right
 focus(
 rw [if_pos c16] at H
 have c16b0 : (a0.toList == ([99, 111, 117, 110, 116] : List UInt8)) = true := Dl c16
 have c16b1 : (a0.toList != ([99, 111, 117, 110, 116] : List UInt8)) = false := Dk c16
 clear c16))
 rotate_right
 focus(
 rw [if_pos c15] at H
 have c15b0 : (a0.toList == ([97, 108, 108] : List UInt8)) = true := Dl c15
 have c15b1 : (a0.toList != ([97, 108, 108] : List UInt8)) = false := Dk c15
 clear c15))
 rotate_right
 focus(
 rw [if_pos c14] at H
 have c14b0 : (a0.toList == ([98, 121] : List UInt8)) = true := Dl c14
 have c14b1 : (a0.toList != ([98, 121] : List UInt8)) = false := Dk c14
 clear c14))
 rotate_right
 focus(
 rw [if_pos c13] at H
 have c13b0 : (a0.toList == ([103, 114, 111, 117, 112] : List UInt8)) = true := Dl c13
 have c13b1 : (a0.toList != ([103, 114, 111, 117, 112] : List UInt8)) = false := Dk c13
 clear c13))
 rotate_right
 focus(
 rw [if_pos c12] at H
 have c12b0 : (a0.toList == ([119, 104, 101, 114, 101] : List UInt8)) = true := Dl c12
 have c12b1 : (a0.toList != ([119, 104, 101, 114, 101] : List UInt8)) = false := Dk c12
 clear c12))
 rotate_right
 focus(
 rw [if_pos c11] at H
 have c11b0 : (a0.toList == ([102, 114, 111, 109] : List UInt8)) = true := Dl c11
 have c11b1 : (a0.toList != ([102, 114, 111, 109] : List UInt8)) = false := Dk c11
 clear c11))
 rotate_right
 focus(
 rw [if_pos c10] at H
 have c10b0 : (a0.toList == ([115, 101, 108, 101, 99, 116] : List UInt8)) = true := Dl c10
 have c10b1 : (a0.toList != ([115, 101, 108, 101, 99, 116] : List UInt8)) = false := Dk c10
 clear c10))
 rotate_right
 focus(
 rw [if_pos c9] at H
 have c9b0 : (a0.toList == ([102, 97, 108, 115, 101] : List UInt8)) = true := Dl c9
 have c9b1 : (a0.toList != ([102, 97, 108, 115, 101] : List UInt8)) = false := Dk c9
 clear c9))
 rotate_right
 focus(
 rw [if_pos c8] at H
 have c8b0 : (a0.toList == ([116, 114, 117, 101] : List UInt8)) = true := Dl c8
 have c8b1 : (a0.toList != ([116, 114, 117, 101] : List UInt8)) = false := Dk c8
 clear c8))
 rotate_right
 focus(
 rw [if_pos c7] at H
 have c7b0 : (a0.toList == ([108, 105, 107, 101] : List UInt8)) = true := Dl c7
 have c7b1 : (a0.toList != ([108, 105, 107, 101] : List UInt8)) = false := Dk c7
 clear c7))
 rotate_right
 focus(
 rw [if_pos c6] at H
 have c6b0 : (a0.toList == ([110, 117, 108, 108] : List UInt8)) = true := Dl c6
 have c6b1 : (a0.toList != ([110, 117, 108, 108] : List UInt8)) = false := Dk c6
 clear c6))
 rotate_right
 focus(
 rw [if_pos c5] at H
 have c5b0 : (a0.toList == ([105, 115] : List UInt8)) = true := Dl c5
 have c5b1 : (a0.toList != ([105, 115] : List UInt8)) = false := Dk c5
 clear c5))
 rotate_right
 focus(
 rw [if_pos c4] at H
 have c4b0 : (a0.toList == ([110, 111, 116] : List UInt8)) = true := Dl c4
 have c4b1 : (a0.toList != ([110, 111, 116] : List UInt8)) = false := Dk c4
 clear c4))
 rotate_right
 focus(
 rw [if_pos c3] at H
 have c3b0 : (a0.toList == ([111, 114] : List UInt8)) = true := Dl c3
 have c3b1 : (a0.toList != ([111, 114] : List UInt8)) = false := Dk c3
 clear c3))
 rotate_right
 focus(
 rw [if_pos c2] at H
 have c2b0 : (a0.toList == ([97, 110, 100] : List UInt8)) = true := Dl c2
 have c2b1 : (a0.toList != ([97, 110, 100] : List UInt8)) = false := Dk c2
 clear c2)
 all_goals(
 obtain rfl := Dp H
 go_enter Try.func92, Try.ntmps92
 go_wp2
 go_ret
 exact ⟨by first | rfl | (simp; done) | (simp [*]; done), by repeat (first | exact Bp.refl _ | apply Bp.step)⟩)
def wordB (s : ByteArray) : Bool := (Cz.f s).getD false
theorem word_some (s : ByteArray) : Cz.f s = some (wordB s) := by
 refine Ans.getD ?_ false
 unfold Cz.f
 repeat' (first | exact Ans.some_ _ | refine Ans.ite ?_ ?_)
def nameB (s : ByteArray) : Bool := decide (s.size ≠ 0) && (decide (s.size ≤ 12) && (!wordB s && nameOk true s.data.toList))
def Bt.f (a0 : ByteArray) : Option Bool := some (nameB a0)
set_option maxHeartbeats 1000000 in
theorem Bt.loop (a0 : ByteArray) (w : World) (hw : wordB a0 = false) (h0 : a0.size ≠ 0) (h12 : a0.size ≤ 12) :
    Calls Try.prog 68 #[.string a0] w fun e w' => e = .returned (.bool (nameOk true a0.data.toList)) ∧ Below w.heap.size w w' := by
 have g0 : a0.toList.isEmpty = false := by(
 cases h : a0.toList with
 | nil => exact absurd (by rw [ByteArray.toList_eq] at h; have := data_length a0; rw [h] at this; exact this.symm) h0
 | cons x l => rfl)
 have g1 : (a0.toList == []) = false := by(
 cases h : a0.toList with
 | nil => rw [h] at g0; simp at g0
 | cons x l => rfl)
 have g2 : a0.toList ≠ [] := by intro h; rw [h] at g0; simp at g0
 have hcon := Cz.calls a0 false w (by rw [word_some, hw])
 go_enter Try.func68, Try.ntmps68
 go_wp2_with (go_at_call 92; refine hcon.mono ?_; rintro e w' ⟨rfl, ⟨n, rfl⟩⟩)
 go_loopg [3] a0.size (fun gk v3 w' => ∃ pos : Nat, pos ≤ a0.size ∧ a0.size - pos ≤ gk ∧ w' = (w.drewN n).iter a0 pos ∧ Aa (nameOk (pos == 0) (a0.data.toList.drop pos) = nameOk true a0.data.toList))
 case atStart => exact ⟨0, Nat.zero_le _, by omega, rfl, ⟨by simp⟩⟩
 case round =>(
 obtain ⟨pos, hpos, hg, rfl, HN⟩ := hrel
 by_cases hp : pos < a0.size
 ·(
 have hd := drop_byte a0 pos hp
 have hN := HN.out
 rw [hd, nameOk] at hN
 have hnx : ∀ ty, (Instr.next (.pointer (some ⟨w.heap.size, 0, none⟩)) true ty).run Try.prog ((w.drewN n).iter a0 pos) = _ := fun ty => run_next_any (w.drewN n) a0 pos ty hp
 have hwp := width_pos a0 pos hp
 have hle := decode_le a0 pos
 have hq : (okB (pos == 0) a0[pos] = true ∧ (Utf8.decode a0 pos).2 = 1 ∧ ((97 ≤ (Utf8.decode a0 pos).1 ∧ (Utf8.decode a0 pos).1 ≤ 122) ∨ (0 < pos ∧ ((48 ≤ (Utf8.decode a0 pos).1 ∧ (Utf8.decode a0 pos).1 ≤ 57) ∨ (Utf8.decode a0 pos).1 = 95)))) ∨
    (okB (pos == 0) a0[pos] = false ∧ ¬ (97 ≤ (Utf8.decode a0 pos).1 ∧ (Utf8.decode a0 pos).1 ≤ 122) ∧ (pos = 0 ∨ (¬ (48 ≤ (Utf8.decode a0 pos).1 ∧ (Utf8.decode a0 pos).1 ≤ 57) ∧ (Utf8.decode a0 pos).1 ≠ 95))) := by
  by_cases ha : (a0[pos]'hp).toNat < 128
  · rw [decode_ascii a0 pos hp ha]
    generalize (a0[pos]'hp) = b
    simp only [okB]
    by_cases hz : pos = 0
    · subst hz
      by_cases h1 : 97 ≤ b.toNat ∧ b.toNat ≤ 122
      · left; simp [h1]
      · right
        refine ⟨?_, h1, .inl rfl⟩
        simp; omega
    · have : (pos == 0) = false := by simpa using hz
      rw [this]
      by_cases h1 : (97 ≤ b.toNat ∧ b.toNat ≤ 122) ∨ ((48 ≤ b.toNat ∧ b.toNat ≤ 57) ∨ b.toNat = 95)
      · left
        refine ⟨?_, by simp, ?_⟩
        · simp; omega
        · rcases h1 with h1 | h1
          · exact .inl h1
          · exact .inr ⟨by omega, h1⟩
      · right
        refine ⟨?_, by omega, .inr (by omega)⟩
        simp; omega
  · right
    have hh := (decode_high a0 pos hp (by omega)).1
    refine ⟨?_, by omega, .inr (by omega)⟩
    generalize (a0[pos]'hp) = b at ha
    simp [okB]; omega
 generalize (Utf8.decode a0 pos).1 = c at hnx hle hq
 generalize (Utf8.decode a0 pos).2 = wd at hnx hwp hq
 have HD := Aa.mk hd
 clear hd HN
 rcases hq with ⟨hk, rfl, hq⟩ | ⟨hk, hq⟩
 ·(
 rw [hk, Bool.true_and] at hN
 have HN := Aa.mk hN
 clear hN hk
 have hm1 : (pos + 1 == 0) = false := by simp
 rcases hq with ⟨q1, q2⟩ | ⟨q0, ⟨q1, q2⟩ | q1⟩
 all_goals(
 go_wp2
 all_goals(
 go_roundg (a0.size - (pos + 1))
 case measure => omega
 case rel => exact ⟨pos + 1, by omega, Nat.le_refl _, rfl, ⟨by rw [hm1]; exact HN.out⟩⟩)))
 ·(
 rw [hk, Bool.false_and] at hN
 have HN := Aa.mk hN
 clear hN hk
 have q : (0 < pos ∨ pos = 0) ∧ (c < 48 ∨ (48 ≤ c ∧ c ≤ 57 ∧ pos = 0) ∨ (57 < c ∧ c < 95) ∨ (c = 95 ∧ pos = 0) ∨ (95 < c ∧ c < 97) ∨ 122 < c) := by omega
 clear hq
 obtain ⟨qz, q⟩ := q
 rcases qz with qz | rfl <;> rcases q with q | ⟨q, q', qe⟩ | ⟨q, q'⟩ | ⟨rfl, qe⟩ | ⟨q, q'⟩ | q
 all_goals (try (exfalso; omega))
 all_goals(
 (try clear qe)
 go_wp2
 all_goals first
  | (go_ret; exact ⟨by rw [← HN.out]; rfl, Ak (Ah (Below.refl _ _) n) _⟩)
  | (exfalso; clear HN HD hnx; simp only [Bool.not_eq_false', decide_eq_true_eq, decide_eq_false_iff_not, beq_iff_eq, beq_eq_false_iff_ne, ne_eq] at *; omega))))
 ·(
 have hnx : ∀ ty, (Instr.next (.pointer (some ⟨w.heap.size, 0, none⟩)) true ty).run Try.prog ((w.drewN n).iter a0 pos) = _ := fun ty => run_next_end (w.drewN n) a0 pos ty hp
 have hN := HN.out
 rw [List.drop_eq_nil_of_le (by rw [data_length]; omega), nameOk] at hN
 have HN2 := Aa.mk hN
 clear hN HN
 go_wp2
 go_ret
 exact ⟨by rw [← HN2.out]; rfl, Ak (Ah (Below.refl _ _) n) _⟩))
theorem Bt.calls (a0 : ByteArray) (r : Bool) (w : World) (h : Bt.f a0 = some r) :
    Calls Try.prog 68 #[.string a0] w fun e w' => e = .returned (.bool r) ∧ Below w.heap.size w w' := by
 simp only [Bt.f, Option.some.injEq] at h
 subst h
 by_cases h0 : a0.size = 0
 ·(
 have g : a0.toList = [] := by(
 rw [ByteArray.toList_eq]
 exact List.eq_nil_of_length_eq_zero (by rw [data_length]; exact h0))
 have hn : nameB a0 = false := by simp [nameB, h0]
 rw [hn]
 clear hn
 go_enter Try.func68, Try.ntmps68
 go_wp2
 go_ret
 exact ⟨by first | rfl | (simp; done), Below.refl _ _⟩)
 ·(
 by_cases h12 : a0.size ≤ 12
 ·(
 cases hw : wordB a0
 ·(
 have hn : nameB a0 = nameOk true a0.data.toList := by simp [nameB, h0, h12, hw]
 rw [hn]
 exact Bt.loop a0 w hw h0 h12)
 ·(
 have hn : nameB a0 = false := by simp [nameB, hw]
 rw [hn]
 have g2 : a0.toList ≠ [] := by intro h; rw [ByteArray.toList_eq] at h; have := data_length a0; rw [h] at this; exact h0 this.symm
 have g0 : a0.toList.isEmpty = false := by simpa using g2
 have g1 : (a0.toList == []) = false := by simpa using g2
 have hcon := Cz.calls a0 true w (by rw [word_some, hw])
 clear hn hw
 go_enter Try.func68, Try.ntmps68
 go_wp2_with (go_at_call 92; refine hcon.mono ?_; rintro e w' ⟨rfl, ⟨n, rfl⟩⟩)
 go_ret
 exact ⟨by first | rfl | (simp; done), Ah (Below.refl _ _) n⟩))
 ·(
 have hn : nameB a0 = false := by simp [nameB, h12]
 rw [hn]
 have g2 : a0.toList ≠ [] := by intro h; rw [ByteArray.toList_eq] at h; have := data_length a0; rw [h] at this; exact h0 this.symm
 have g0 : a0.toList.isEmpty = false := by simpa using g2
 have g1 : (a0.toList == []) = false := by simpa using g2
 have h13 : (12 : Int) < a0.size := by omega
 clear hn
 go_enter Try.func68, Try.ntmps68
 go_wp2
 go_ret
 exact ⟨by first | rfl | (simp; done), Below.refl _ _⟩))
attribute [local go_sem high] eqA24
def Dh.f (a0_0 : Int) (a0_1 : ByteArray) (a0_2 : Int) (a0_3 : Bool) (a0_4 : Int) (a0_5 : ByteArray) (a0_6 : Int) (a0_7 : ByteArray) (l0_8 : List (S27)) (a1_0 : Int) (a1_1 : ByteArray) (a1_2 : Int) (a1_3 : Bool) (a1_4 : Int) (a1_5 : ByteArray) (a1_6 : Int) (a1_7 : ByteArray) (l1_8 : List (S27)) : Option (Bool) := if a0_0 = a1_0 then (if a0_1.toList = a1_1.toList then (if a0_2 = a1_2 then (if (a0_3 == a1_3 && (a0_4 == a1_4 && (a0_5.toList == a1_5.toList))) = true then (if a0_6 = a1_6 then (some (a0_7.toList == a1_7.toList)) else (some false)) else (some false)) else (some false)) else (some false)) else (some false)
theorem Dh.calls (a0_0 : Int) (a0_1 : ByteArray) (a0_2 : Int) (a0_3 : Bool) (a0_4 : Int) (a0_5 : ByteArray) (a0_6 : Int) (a0_7 : ByteArray) (A0_8 : Option Addr) (c0_8 : Nat) (l0_8 : List (S27)) (a1_0 : Int) (a1_1 : ByteArray) (a1_2 : Int) (a1_3 : Bool) (a1_4 : Int) (a1_5 : ByteArray) (a1_6 : Int) (a1_7 : ByteArray) (A1_8 : Option Addr) (c1_8 : Nat) (l1_8 : List (S27)) (r : Bool) (w : World) (hr0_8 : Kd.C k27 w A0_8 l0_8.length l0_8) (hc0_8 : l0_8.length ≤ c0_8) (hr1_8 : Kd.C k27 w A1_8 l1_8.length l1_8) (hc1_8 : l1_8.length ≤ c1_8) (h : Dh.f a0_0 a0_1 a0_2 a0_3 a0_4 a0_5 a0_6 a0_7 l0_8 a1_0 a1_1 a1_2 a1_3 a1_4 a1_5 a1_6 a1_7 l1_8 = some r) :
  Calls Try.prog 86 #[.agg #[.int .i64 a0_0, .string a0_1, .int .i64 a0_2, .bool a0_3, .int .i64 a0_4, .string a0_5, .int .i64 a0_6, .string a0_7, .slice A0_8 l0_8.length c0_8], .agg #[.int .i64 a1_0, .string a1_1, .int .i64 a1_2, .bool a1_3, .int .i64 a1_4, .string a1_5, .int .i64 a1_6, .string a1_7, .slice A1_8 l1_8.length c1_8]] w fun e w' => e = .returned (.bool r) ∧ Below w.heap.size w w' := by
 have hu27 := Try.underlying27
 have hu24 := Try.underlying24
 have HR0_8 := Aa.mk hr0_8
 have HC0_8 := Aa.mk hc0_8
 clear hr0_8 hc0_8
 have HR1_8 := Aa.mk hr1_8
 have HC1_8 := Aa.mk hc1_8
 clear hr1_8 hc1_8
 have HB := Aa.mk (Below.refl w.heap.size w)
 have H : (if a0_0 = a1_0 then (if a0_1.toList = a1_1.toList then (if a0_2 = a1_2 then (if (a0_3 == a1_3 && (a0_4 == a1_4 && (a0_5.toList == a1_5.toList))) = true then (if a0_6 = a1_6 then (some (a0_7.toList == a1_7.toList)) else (some false)) else (some false)) else (some false)) else (some false)) else (some false)) = some r := h
 clear h
 by_cases c3 : a0_0 = a1_0
 rotate_left
 focus(
 rw [if_neg c3] at H
 have c3b0 : (a0_0 == a1_0) = false := Dj c3
 have c3b1 : (a0_0 != a1_0) = true := Dm c3)
 rotate_right
 focus(
 rw [if_pos c3] at H
 have c3b0 : (a0_0 == a1_0) = true := Dl c3
 have c3b1 : (a0_0 != a1_0) = false := Dk c3
 clear c3
 by_cases c4 : a0_1.toList = a1_1.toList
 rotate_left
 focus(
 rw [if_neg c4] at H
 have c4b0 : (a0_1.toList == a1_1.toList) = false := Dj c4
 have c4b1 : (a0_1.toList != a1_1.toList) = true := Dm c4)
 rotate_right
 focus(
 rw [if_pos c4] at H
 have c4b0 : (a0_1.toList == a1_1.toList) = true := Dl c4
 have c4b1 : (a0_1.toList != a1_1.toList) = false := Dk c4
 clear c4
 by_cases c5 : a0_2 = a1_2
 rotate_left
 focus(
 rw [if_neg c5] at H
 have c5b0 : (a0_2 == a1_2) = false := Dj c5
 have c5b1 : (a0_2 != a1_2) = true := Dm c5)
 rotate_right
 focus(
 rw [if_pos c5] at H
 have c5b0 : (a0_2 == a1_2) = true := Dl c5
 have c5b1 : (a0_2 != a1_2) = false := Dk c5
 clear c5
 by_cases c6 : (a0_3 == a1_3 && (a0_4 == a1_4 && (a0_5.toList == a1_5.toList))) = true
 rotate_left
 focus(
 rw [if_neg c6] at H
 have c6b0 : (a0_3 == a1_3 && (a0_4 == a1_4 && (a0_5.toList == a1_5.toList))) = false := by simpa using c6
 (try (have c6b1 : decide (a0_3 = a1_3 && (a0_4 == a1_4 && (a0_5.toList == a1_5.toList))) = false := by simpa using c6))
 (try (have c6b2 : (a0_3 == a1_3 && (a0_4 == a1_4 && (a0_5.toList == a1_5.toList))) = false := by simpa using c6))
 (try (have c6b3 : ¬ (a0_3 = a1_3 && (a0_4 == a1_4 && (a0_5.toList == a1_5.toList))) := by simpa using c6))
 clear c6)
 rotate_right
 focus(
 rw [if_pos c6] at H
 have c6b0 : (a0_3 == a1_3 && (a0_4 == a1_4 && (a0_5.toList == a1_5.toList))) = true := c6
 (try (have c6b1 : decide (a0_3 = a1_3 && (a0_4 == a1_4 && (a0_5.toList == a1_5.toList))) = true := by simpa using c6))
 (try (have c6b2 : (a0_3 == a1_3 && (a0_4 == a1_4 && (a0_5.toList == a1_5.toList))) = true := by simpa using c6))
 clear c6
 by_cases c7 : a0_6 = a1_6
 rotate_left
 focus(
 rw [if_neg c7] at H
 have c7b0 : (a0_6 == a1_6) = false := Dj c7
 have c7b1 : (a0_6 != a1_6) = true := Dm c7)
 rotate_right
 focus(
 rw [if_pos c7] at H
 have c7b0 : (a0_6 == a1_6) = true := Dl c7
 have c7b1 : (a0_6 != a1_6) = false := Dk c7
 clear c7)))))
 all_goals(
 obtain rfl := Dp H
 go_enter Try.func86, Try.ntmps86
 go_wp2_with (first | (refine bx_ (N := 2) (cs := #[.int .i64 a0_0, .string a0_1, .int .i64 a0_2, .bool a0_3, .int .i64 a0_4, .string a0_5, .int .i64 a0_6, .string a0_7, .slice A0_8 l0_8.length c0_8]) (t := 27) ?_; intro gb106 hg w8 hbox hb; have BK106 := Aa.mk (hbox); have GW106 := ge_ HB hg; have GE106 := ge_ HB hg; replace HB := bs_ HB hb; clear hb hbox hg) | (refine bx_ (N := 3) (cs := #[.int .i64 a1_0, .string a1_1, .int .i64 a1_2, .bool a1_3, .int .i64 a1_4, .string a1_5, .int .i64 a1_6, .string a1_7, .slice A1_8 l1_8.length c1_8]) (t := 27) ?_; intro gb107 hg w9 hbox hb; have BK107 := Aa.mk (hbox); have GW107 := ge_ HB hg; have GE107 := ge_ HB hg; have NB106_107 := lt_ BK106 hg; have NB107_106 := gt_ BK106 hg; replace BK106 := bk_ BK106 hb; replace HB := bs_ HB hb; clear hb hbox hg; have hnb10 := NB106_107.out; have hnc10 := NB107_106.out; obtain ⟨C11_0, C11_1, C11_2, C11_3, C11_4, C11_5, C11_6, C11_7, C11_8⟩ := zc9_ BK106.out; obtain ⟨F11_0, F11_1, F11_2, F11_3, F11_4, F11_5, F11_6, F11_7, F11_8⟩ := zf9_ BK106.out; obtain ⟨C12_0, C12_1, C12_2, C12_3, C12_4, C12_5, C12_6, C12_7, C12_8⟩ := zc9_ BK107.out; obtain ⟨F12_0, F12_1, F12_2, F12_3, F12_4, F12_5, F12_6, F12_7, F12_8⟩ := zf9_ BK107.out))
 go_ret
 exact en_ HB)
def Di.f (a0_0 : Int) (a0_1 : ByteArray) (a0_2 : Int) (a0_3 : Bool) (a0_4 : Int) (a0_5 : ByteArray) (a0_6 : Int) (a0_7 : ByteArray) (l0_8 : List S27) : Option (Int × ByteArray × Int × Bool × Int × ByteArray × Int × ByteArray × List S27) :=
  if a0_0 = 2 then some (a0_0, a0_1, a0_2, a0_3, a0_4, a0_5, a0_6, (⟨#[]⟩ : ByteArray), []) else if a0_0 = 3 then some (a0_0, a0_1, 0, false, 0, (⟨#[]⟩ : ByteArray), 0, (⟨#[]⟩ : ByteArray), []) else
  if a0_0 = 4 then some (a0_0, a0_1, 0, false, 0, (⟨#[]⟩ : ByteArray), 0, a0_7, []) else some (a0_0, (⟨#[]⟩ : ByteArray), 0, false, 0, (⟨#[]⟩ : ByteArray), 0, (⟨#[]⟩ : ByteArray), [])
theorem Di.calls (a0_0 : Int) (a0_1 : ByteArray) (a0_2 : Int) (a0_3 : Bool) (a0_4 : Int) (a0_5 : ByteArray) (a0_6 : Int) (a0_7 : ByteArray) (A0_8 : Option Addr) (c0_8 : Nat) (l0_8 : List (S27)) (r1 : Int) (r2 : ByteArray) (r3 : Int) (r4 : Bool) (r5 : Int) (r6 : ByteArray) (r7 : Int) (r8 : ByteArray) (r9 : List (S27)) (w : World) (hr0_8 : Kd.C k27 w A0_8 l0_8.length l0_8) (hc0_8 : l0_8.length ≤ c0_8) (h : Di.f a0_0 a0_1 a0_2 a0_3 a0_4 a0_5 a0_6 a0_7 l0_8 = some (r1, r2, r3, r4, r5, r6, r7, r8, r9)) :
    Calls Try.prog 87 #[.agg #[.int .i64 a0_0, .string a0_1, .int .i64 a0_2, .bool a0_3, .int .i64 a0_4, .string a0_5, .int .i64 a0_6, .string a0_7, .slice A0_8 l0_8.length c0_8]] w fun e w' => ∃ v8_ : Value, e = .returned (.agg #[.int .i64 r1, .string r2, .int .i64 r3, .bool r4, .int .i64 r5, .string r6, .int .i64 r7, .string r8, v8_]) ∧ Kd.R k27 27 w' w.heap.size (fun _ => True) v8_ r9 ∧ Below w.heap.size w w' := by
 have hu1 := Try.underlying27
 have hu2 := Try.underlying24
 clear hr0_8
 unfold Di.f at h
 by_cases c2 : a0_0 = 2
 ·(
 rw [if_pos c2] at h
 have c2b0 : (a0_0 == 2) = true := Dl c2
 clear c2
 simp only [Option.some.injEq, Prod.mk.injEq] at h
 obtain ⟨rfl, rfl, rfl, rfl, rfl, rfl, rfl, rfl, rfl⟩ := h
 go_enter Try.func87, Try.ntmps87
 go_wp2
 go_region
 all_goals go_wp2
 all_goals (refine bodyPost_ret (v := .agg #[.int .i64 a0_0, .string a0_1, .int .i64 a0_2, .bool a0_3, .int .i64 a0_4, .string a0_5, .int .i64 a0_6, .string ⟨#[]⟩, .slice none 0 0]) (by simp [results, Try.results87, go_sem]) rfl ⟨_, rfl, Kd.R_nil _ _ _ _ _, ?_⟩)
 all_goals repeat (first | exact Below.refl _ _ | apply Ak | apply Ah | apply Aj))
 rw [if_neg c2] at h
 have c2b0 : (a0_0 == 2) = false := Dj c2
 by_cases c3 : a0_0 = 3
 ·(
 rw [if_pos c3] at h
 have c3b0 : (a0_0 == 3) = true := Dl c3
 clear c3 c2
 simp only [Option.some.injEq, Prod.mk.injEq] at h
 obtain ⟨rfl, rfl, rfl, rfl, rfl, rfl, rfl, rfl, rfl⟩ := h
 go_enter Try.func87, Try.ntmps87
 go_wp2
 refine bodyPost_ret (v := .agg #[.int .i64 a0_0, .string a0_1, .int .i64 0, .bool false, .int .i64 0, .string ⟨#[]⟩, .int .i64 0, .string ⟨#[]⟩, .slice none 0 0]) (by simp [results, Try.results87, go_sem]) rfl ⟨_, rfl, Kd.R_nil _ _ _ _ _, ?_⟩
 repeat (first | exact Below.refl _ _ | apply Ak | apply Ah | apply Aj))
 rw [if_neg c3] at h
 have c3b0 : (a0_0 == 3) = false := Dj c3
 by_cases c4 : a0_0 = 4
 ·(
 rw [if_pos c4] at h
 have c4b0 : (a0_0 == 4) = true := Dl c4
 clear c4 c3 c2
 simp only [Option.some.injEq, Prod.mk.injEq] at h
 obtain ⟨rfl, rfl, rfl, rfl, rfl, rfl, rfl, rfl, rfl⟩ := h
 go_enter Try.func87, Try.ntmps87
 go_wp2
 go_region
 all_goals go_wp2
 all_goals (refine bodyPost_ret (v := .agg #[.int .i64 a0_0, .string a0_1, .int .i64 0, .bool false, .int .i64 0, .string ⟨#[]⟩, .int .i64 0, .string a0_7, .slice none 0 0]) (by simp [results, Try.results87, go_sem]) rfl ⟨_, rfl, Kd.R_nil _ _ _ _ _, ?_⟩)
 all_goals repeat (first | exact Below.refl _ _ | apply Ak | apply Ah | apply Aj))
 rw [if_neg c4] at h
 have c4b0 : (a0_0 == 4) = false := Dj c4
 clear c4 c3 c2
 simp only [Option.some.injEq, Prod.mk.injEq] at h
 obtain ⟨rfl, rfl, rfl, rfl, rfl, rfl, rfl, rfl, rfl⟩ := h
 go_enter Try.func87, Try.ntmps87
 go_wp2
 refine bodyPost_ret (v := .agg #[.int .i64 a0_0, .string ⟨#[]⟩, .int .i64 0, .bool false, .int .i64 0, .string ⟨#[]⟩, .int .i64 0, .string ⟨#[]⟩, .slice none 0 0]) (by simp [results, Try.results87, go_sem]) rfl ⟨_, rfl, Kd.R_nil _ _ _ _ _, ?_⟩
 repeat (first | exact Below.refl _ _ | apply Ak | apply Ah | apply Aj)
end Go.Proofs.Ytdedmhmomoejkaa.X
