import Derived.Below
import Derived.Deep.Draws
import Derived.Deep.AppendLies
import Derived.Maps.AppendAt
import Derived.OwnWalk
import Derived.Laws.BytesArg
import Derived.Laws.MakeOwn
import Derived.Laws.OwnMore
import Derived.Deep.OwnRows
import Derived.Tactics
import Derived.Lib.ConvBytes
import Derived.Laws.Slices
import Derived.WalkKit
import Derived.KernelRfl
import Derived.RowKit3
import Derived.Deep.LoopGhost
import Derived.Deep.QuietTactic
import Derived.BigQuiet
import Derived.WideLaws
import Derived.Deep.DeepCutAuto
import Derived.Deep.CutBlock
import Derived.Deep.RegionHeld3
import Derived.Laws.Rows
import Derived.Lib.AppendStr
import Derived.ArgAppend
import Derived.Laws.IdiomCopy
import Derived.OrdersHeld
import Derived.Laws.BitsLemmas
import Derived.RowKit
import Derived.Laws.Cover1
import Derived.Shelf.Abstract

import Derived.Test.YtdedmhmomoejkaaDoorWLast
import Derived.Test.YtdedmhmomoejkaaDoorWTab
namespace Go.Proofs.YtdedmhmomoejkaaDoor.V
open Go Go.RowKit Go.Proofs.YtdedmhmomoejkaaDoorW.PrintLast
set_option linter.unusedVariables false
set_option linter.unusedSimpArgs false
/-! A second reading of the code: what a call computes, told by the content of its memory (values, lists), not by places. First part: the words. -/
/-- What a cell that is never written again holds. any: whatever. -/
inductive C where
  | v (x : Value)
  | sl (n sz : Nat) (f : Nat → Nat → C)
  | any
/-- What a register, or a cell of own memory, holds. ptr: own variable 'id', cell 'off'; ep: own row 'id', element i, its cell off; rp: n cells that are never written again; own: own row 'id', n elements from number o on. -/
inductive L where
  | c (x : C)
  | ptr (id off : Nat)
  | ep (id sz i off : Nat)
  | rp (n : Nat) (f : Nat → C)
  | own (id sz o n : Nat)
  | fn (f : FuncId) (caps : List Nat)
  | junk
inductive A where
  | one (l : L)
  | agg (ls : List L)
  | tup (xs : List (List L × Bool))
  | opt (g : Bool) (a : A)
inductive B where
  | var (ls : List L) (t : TypeId)
  | arr (es : List (List L)) (sz : Nat) (t : TypeId)
  | iter (s : ByteArray) (p : Nat)
  | hid
inductive TK where
  | prim (d : TypeDesc)
  | struct (fs : List (Nat × TypeId)) (eq : Bool)
  | slice (e : TypeId)
  | array (n : Nat) (e : TypeId)
structure TI where
  k : TK
  size : Nat
  bytes : Nat
  zero : List Value
abbrev Ty := TypeId → Option TI
/-- m: so many of the own blocks are lent by the caller. -/
structure St where
  nt : Nat
  m : Nat
  tm : List (Nat × A)
  bx : List B
abbrev A.v (x : Value) : A := .one (.c (.v x))
abbrev A.int (k : IntKind) (n : Int) : A := .one (.c (.v (.int k n)))
abbrev A.bool (b : Bool) : A := .one (.c (.v (.bool b)))
abbrev A.str (s : ByteArray) : A := .one (.c (.v (.string s)))
abbrev A.junk : A := .one .junk
def ofV : Value → A
  | .agg cs => .agg (cs.toList.map fun x => .c (.v x))
  | x => .one (.c (.v x))
def lk : List (Nat × A) → Nat → A
  | [], _ => .one .junk
  | (t, a) :: r, n => if t = n then a else lk r n
def St.ev (σ : St) : Operand → A
  | .tmp t => lk σ.tm t
  | .const v => ofV v
  | .func f => .one (.fn f [])
  | .global _ => .one .junk
def St.put (σ : St) (d : Nat) (a : A) : St := if d < σ.nt then { σ with tm := (d, a) :: σ.tm } else σ
def St.putO (σ : St) : Option Nat → A → St
  | some d, a => σ.put d a
  | none, _ => σ
/-- Is it there, and what it is then. -/
def strip : A → Bool × A
  | .opt g a => (g && (strip a).1, (strip a).2)
  | a => (true, a)
def Ty.size (T : Ty) (t : TypeId) : Nat := match T t with | some i => i.size | none => 0
def TI.agg (i : TI) : Bool := match i.k with | .struct _ _ => true | .array _ _ => true | _ => false
def Ty.isAgg (T : Ty) (t : TypeId) : Bool := match T t with | some i => i.agg | none => false
def Ty.known (T : Ty) (t : TypeId) : Bool := (T t).isSome
/-- A value of a type, of its cells. -/
def mk (T : Ty) (t : TypeId) (ls : List L) : A := if T.isAgg t then .agg ls else .one (ls.headD .junk)
def fcells (f : Nat → C) (o : Nat) : Nat → List L
  | 0 => []
  | n + 1 => .c (f o) :: fcells f (o + 1) n
/-- The cells of a value. -/
def leaves : A → List L
  | .agg ls => ls
  | .one l => [l]
  | _ => []
def iop (op : BinOp) (k : IntKind) (a : Int) (k' : IntKind) (b : Int) : Prop × Value :=
  match op with
  | .add => (k = k', .int k (k.wrap (a + b)))
  | .sub => (k = k', .int k (k.wrap (a - b)))
  | .mul => (k = k', .int k (k.wrap (a * b)))
  | .quo => (k = k' ∧ b ≠ 0, .int k (k.wrap (a.tdiv b)))
  | .rem => (k = k' ∧ b ≠ 0, .int k (a.tmod b))
  | .and => (k = k', .int k (k.wrap (BitVec.ofInt k.bits a &&& BitVec.ofInt k.bits b).toNat))
  | .or => (k = k', .int k (k.wrap (BitVec.ofInt k.bits a ||| BitVec.ofInt k.bits b).toNat))
  | .xor => (k = k', .int k (k.wrap (BitVec.ofInt k.bits a ^^^ BitVec.ofInt k.bits b).toNat))
  | .shl => (0 ≤ b, .int k (k.wrap (a * 2 ^ min b.toNat k.bits)))
  | .shr => (0 ≤ b, .int k (a.fdiv (2 ^ min b.toNat k.bits)))
  | .eql => (k = k', .bool (decide (a = b)))
  | .neq => (k = k', .bool (!decide (a = b)))
  | .lss => (k = k', .bool (decide (a < b)))
  | .leq => (k = k', .bool (decide (a ≤ b)))
  | .gtr => (k = k', .bool (decide (b < a)))
  | .geq => (k = k', .bool (decide (b ≤ a)))
  | _ => (False, undef)
def sop (op : BinOp) (x y : ByteArray) : Prop × Value :=
  match op with
  | .add => (x.size + y.size ≤ 9223372036854775807, .string (x ++ y))
  | .eql => (True, .bool (decide (x = y)))
  | .neq => (True, .bool (!decide (x = y)))
  | .lss => (True, .bool (Op.bytesLess x.toList y.toList))
  | .leq => (True, .bool (Op.bytesLess x.toList y.toList || decide (x = y)))
  | .gtr => (True, .bool (!(Op.bytesLess x.toList y.toList || decide (x = y))))
  | .geq => (True, .bool (!Op.bytesLess x.toList y.toList))
  | _ => (False, undef)
/-- Are two values of a type the same? -/
def eqv (T : Ty) : Nat → TypeId → A → A → Prop × Bool
  | 0, _, _, _ => (False, false)
  | d + 1, t, x, y => match T t with
    | some ⟨.prim (.int _), _, _, _⟩ => match x, y with
      | .one (.c (.v (.int k a))), .one (.c (.v (.int k' b))) => (k = k', decide (a = b))
      | _, _ => (False, false)
    | some ⟨.prim .bool, _, _, _⟩ => match x, y with
      | .one (.c (.v (.bool a))), .one (.c (.v (.bool b))) => (True, a == b)
      | _, _ => (False, false)
    | some ⟨.prim .string, _, _, _⟩ => match x, y with
      | .one (.c (.v (.string a))), .one (.c (.v (.string b))) => (True, decide (a = b))
      | _, _ => (False, false)
    | some ⟨.prim (.pointer _), _, _, _⟩ => match x, y with
      | .one (.ptr _ _), .one (.c (.v (.pointer none))) => (True, false)
      | .one (.c (.v (.pointer none))), .one (.ptr _ _) => (True, false)
      | .one (.rp _ _), .one (.c (.v (.pointer none))) => (True, false)
      | .one (.c (.v (.pointer none))), .one (.c (.v (.pointer none))) => (True, true)
      | _, _ => (False, false)
    | some ⟨.struct fs true, _, _, _⟩ => match x, y with
      | .agg xs, .agg ys => fs.foldr (fun f r =>
        (T.known f.2 = true ∧ f.1 + T.size f.2 ≤ xs.length ∧ f.1 + T.size f.2 ≤ ys.length ∧ 0 < T.size f.2 ∧
          (eqv T d f.2 (mk T f.2 ((xs.drop f.1).take (T.size f.2))) (mk T f.2 ((ys.drop f.1).take (T.size f.2)))).1 ∧ r.1,
          (eqv T d f.2 (mk T f.2 ((xs.drop f.1).take (T.size f.2))) (mk T f.2 ((ys.drop f.1).take (T.size f.2)))).2 && r.2)) (True, true)
      | _, _ => (False, false)
    | _ => (False, false)
def pEq (T : Ty) (t : TypeId) (op : BinOp) (x y : Bool × A) : Prop × A :=
  match op with
  | .eql => (x.1 = true ∧ y.1 = true ∧ (eqv T 10 t x.2 y.2).1, .bool (eqv T 10 t x.2 y.2).2)
  | .neq => (x.1 = true ∧ y.1 = true ∧ (eqv T 10 t x.2 y.2).1, .bool (!(eqv T 10 t x.2 y.2).2))
  | _ => (False, .junk)
/-- An operation that neither writes nor calls: what it asks, and what it yields. -/
def pBin (T : Ty) (t : TypeId) (op : BinOp) (x y : Bool × A) : Prop × A :=
  match x, y with
  | (g, .one (.c (.v (.int k a)))), (g', .one (.c (.v (.int k' b)))) => (g = true ∧ g' = true ∧ (iop op k a k' b).1, .v (iop op k a k' b).2)
  | (g, .one (.c (.v (.string a)))), (g', .one (.c (.v (.string b)))) => (g = true ∧ g' = true ∧ (sop op a b).1, .v (sop op a b).2)
  | x, y => pEq T t op x y
def pickV (t : Bool) : A → A → A
  | .one (.c (.v (.bool a))), .one (.c (.v (.bool b))) => .bool (bif t then a else b)
  | .one (.c (.v (.int k a))), .one (.c (.v (.int k' b))) => if k = k' then .int k (bif t then a else b) else bif t then .int k a else .int k' b
  | a, b => bif t then a else b
def pPick (c x y : Bool × A) : Prop × A :=
  match c with
  | (g, .one (.c (.v (.bool t)))) => (g = true ∧ (t = true → x.1 = true) ∧ (t = false → y.1 = true), pickV t x.2 y.2)
  | _ => (False, .junk)
def pNot (x : Bool × A) : Prop × A :=
  match x with
  | (g, .one (.c (.v (.bool b)))) => (g = true, .bool (!b))
  | _ => (False, .junk)
def pNeg (x : Bool × A) : Prop × A :=
  match x with
  | (g, .one (.c (.v (.int k n)))) => (g = true, .int k (k.wrap (0 - n)))
  | _ => (False, .junk)
def pNil (x : Bool × A) : Prop × A :=
  match x with
  | (g, .one (.ptr i o)) => (g = true, .one (.ptr i o))
  | (g, .one (.ep i sz k o)) => (g = true, .one (.ep i sz k o))
  | (g, .one (.rp n f)) => (g = true, .one (.rp n f))
  | (g, .one (.fn f c)) => (g = true, .one (.fn f c))
  | _ => (False, .junk)
def pConv (T : Ty) (s d : TypeId) (x : Bool × A) : Prop × A :=
  match T s, T d, x with
  | some ⟨.prim (.int _), _, _, _⟩, some ⟨.prim (.int k), _, _, _⟩, (g, .one (.c (.v (.int _ n)))) => (g = true, .int k (k.wrap n))
  | _, _, _ => (False, .junk)
def pLoad (T : Ty) (bx : List B) (t : TypeId) (x : Bool × A) : Prop × A :=
  match x with
  | (g, .one (.ptr id off)) => match bx[id]? with
    | some (.var ls _) => (g = true ∧ T.known t = true ∧ off + T.size t ≤ ls.length ∧ 0 < T.size t, mk T t ((ls.drop off).take (T.size t)))
    | _ => (False, .junk)
  | (g, .one (.ep id sz i off)) => match bx[id]? with
    | some (.arr es sz' _) => (g = true ∧ T.known t = true ∧ sz = sz' ∧ i < es.length ∧ off + T.size t ≤ sz ∧ 0 < T.size t, mk T t (((es.getD i []).drop off).take (T.size t)))
    | _ => (False, .junk)
  | (g, .one (.rp n f)) => (g = true ∧ T.known t = true ∧ T.size t ≤ n ∧ 0 < T.size t, mk T t (fcells f 0 (T.size t)))
  | _ => (False, .junk)
def pFieldAddr (T : Ty) (s : TypeId) (x : Bool × A) (k : Nat) : Prop × A :=
  match T s with
  | some ⟨.struct fs _, _, _, _⟩ => match fs[k]? with
    | some (o, ft) => match x with
      | (g, .one (.ptr id off)) => (g = true ∧ 0 < T.size ft, .one (.ptr id (off + o)))
      | (g, .one (.ep id sz i off)) => (g = true ∧ 0 < T.size ft, .one (.ep id sz i (off + o)))
      | (g, .one (.rp n f)) => (g = true ∧ 0 < T.size ft, .one (.rp (n - o) (fun j => f (o + j))))
      | _ => (False, .junk)
    | none => (False, .junk)
  | _ => (False, .junk)
def pField (T : Ty) (s : TypeId) (x : Bool × A) (k : Nat) : Prop × A :=
  match T s with
  | some ⟨.struct fs _, _, _, _⟩ => match fs[k]? with
    | some (o, ft) => match x with
      | (g, .agg ls) => (g = true ∧ T.known ft = true ∧ o + T.size ft ≤ ls.length ∧ 0 < T.size ft, mk T ft ((ls.drop o).take (T.size ft)))
      | _ => (False, .junk)
    | none => (False, .junk)
  | _ => (False, .junk)
def pIndexAddr (T : Ty) (t : TypeId) (x i : Bool × A) : Prop × A :=
  match T t with
  | some ⟨.slice e, _, _, _⟩ => match x, i with
    | (g, .one (.c (.sl n sz f))), (g', .one (.c (.v (.int _ k)))) => (g = true ∧ g' = true ∧ T.known e = true ∧ T.size e = sz ∧ 0 < sz ∧ 0 ≤ k ∧ k < n, .one (.rp sz (f k.toNat)))
    | (g, .one (.own id sz o n)), (g', .one (.c (.v (.int _ k)))) => (g = true ∧ g' = true ∧ T.known e = true ∧ T.size e = sz ∧ 0 ≤ k ∧ k < n, .one (.ep id sz (o + k.toNat) 0))
    | _, _ => (False, .junk)
  | _ => (False, .junk)
def pIndex (T : Ty) (t : TypeId) (x i : Bool × A) : Prop × A :=
  match T t with
  | some ⟨.prim .string, _, _, _⟩ => match x, i with
    | (g, .one (.c (.v (.string s)))), (g', .one (.c (.v (.int _ k)))) => (g = true ∧ g' = true ∧ 0 ≤ k ∧ k < s.size, .int .u8 ((s.data.getD k.toNat 0).toNat : Int))
    | _, _ => (False, .junk)
  | _ => (False, .junk)
def pExtract (x : Bool × A) (i : Nat) : Prop × A :=
  match x with
  | (g, .tup xs) => match xs[i]? with
    | some (ls, true) => (g = true, .agg ls)
    | some ([l], false) => (g = true, .one l)
    | _ => (False, .junk)
  | _ => (False, .junk)
def pLen (T : Ty) (t : TypeId) (x : Bool × A) : Prop × A :=
  match T t, x with
  | some ⟨.prim .string, _, _, _⟩, (g, .one (.c (.v (.string s)))) => (g = true, .int .i64 (s.size : Int))
  | some ⟨.slice _, _, _, _⟩, (g, .one (.c (.sl n _ _))) => (g = true, .int .i64 (n : Int))
  | some ⟨.slice _, _, _, _⟩, (g, .one (.c (.v (.slice _ n _)))) => (g = true, .int .i64 (n : Int))
  | some ⟨.slice _, _, _, _⟩, (g, .one (.own _ _ _ n)) => (g = true, .int .i64 (n : Int))
  | _, _ => (False, .junk)
/-- min, max of two. -/
def pMin (mx : Bool) (x y : Bool × A) : Prop × A :=
  match x, y with
  | (g, .one (.c (.v (.int k a)))), (g', .one (.c (.v (.int _ b)))) => (g = true ∧ g' = true, .int k (if mx then (if a < b then b else a) else (if b < a then b else a)))
  | _, _ => (False, .junk)
def bound (x : Option (Bool × A)) (d : Int) : Prop × Int :=
  match x with
  | none => (True, d)
  | some (g, .one (.c (.v (.int _ k)))) => (g = true, k)
  | some _ => (False, 0)
def pSlice (T : Ty) (t : TypeId) (x : Bool × A) (lo hi : Option (Bool × A)) : Prop × A :=
  match T t, x with
  | some ⟨.prim .string, _, _, _⟩, (g, .one (.c (.v (.string s)))) =>
    (g = true ∧ (bound lo 0).1 ∧ (bound hi s.size).1 ∧ 0 ≤ (bound lo 0).2 ∧ (bound lo 0).2 ≤ (bound hi s.size).2 ∧ (bound hi s.size).2 ≤ s.size, .str (s.extract (bound lo 0).2.toNat (bound hi s.size).2.toNat))
  | some ⟨.slice e, _, _, _⟩, (g, .one (.c (.sl n sz f))) =>
    (g = true ∧ T.known e = true ∧ T.size e = sz ∧ (bound lo 0).1 ∧ (bound hi n).1 ∧ 0 ≤ (bound lo 0).2 ∧ (bound lo 0).2 ≤ (bound hi n).2 ∧ (bound hi n).2 ≤ n,
      .one (.c (.sl ((bound hi n).2.toNat - (bound lo 0).2.toNat) sz (fun i => f ((bound lo 0).2.toNat + i)))))
  | some ⟨.slice e, _, _, _⟩, (g, .one (.own id sz o n)) =>
    (g = true ∧ T.known e = true ∧ T.size e = sz ∧ (bound lo 0).1 ∧ (bound hi n).1 ∧ 0 ≤ (bound lo 0).2 ∧ (bound lo 0).2 ≤ (bound hi n).2 ∧ (bound hi n).2 ≤ n ∧ ((bound lo 0).2 = 0 ∨ (bound lo 0).2 < n),
      .one (.own id sz (o + (bound lo 0).2.toNat) ((bound hi n).2.toNat - (bound lo 0).2.toNat)))
  | _, _ => (False, .junk)
/-- May it lie in one cell? -/
def lcell : L → Bool
  | .c (.v x) => x.oneCell'
  | .c .any => false
  | .junk => false
  | _ => true
def whole : A → Bool
  | .agg _ => true
  | .one l => lcell l
  | _ => false
def fillL (place : Nat → Option (Nat × Nat)) (cells : List L) : List (Nat × Bool × A) → Option (Prop × List L)
  | [] => some (True, cells)
  | (i, g, a) :: rest => match place i with
    | some (off, size) => if (leaves a).length = size ∧ off + size ≤ cells.length then
        (fillL place (cells.take off ++ leaves a ++ cells.drop (off + size)) rest).map fun r => (g = true ∧ whole a = true ∧ r.1, r.2) else none
    | none => none
def pBuild (T : Ty) (t : TypeId) (ps : List (Nat × Bool × A)) : Prop × A :=
  match T t with
  | some ⟨.struct fs _, _, _, z⟩ => match fillL (fun i => (fs[i]?).map fun p => (p.1, T.size p.2)) (z.map fun x => .c (.v x)) ps with
    | some (p, ls) => (p ∧ (fs.all fun p => T.known p.2) = true, .agg ls)
    | none => (False, .junk)
  | _ => (False, .junk)
/-- The operations that only read. -/
def pure? (T : Ty) (σ : St) (op : Op) : Option (Prop × A) :=
  match op with
  | .move x | .assign x => some (True, σ.ev x)
  | .pick c x y => some (pPick (strip (σ.ev c)) (strip (σ.ev x)) (strip (σ.ev y)))
  | .binOp op t x y _ => some (pBin T t op (strip (σ.ev x)) (strip (σ.ev y)))
  | .unOp .not _ x => some (pNot (strip (σ.ev x)))
  | .unOp .neg _ x => some (pNeg (strip (σ.ev x)))
  | .nilCheck x => some (pNil (strip (σ.ev x)))
  | .load t x => some (pLoad T σ.bx t (strip (σ.ev x)))
  | .fieldAddr s x k => some (pFieldAddr T s (strip (σ.ev x)) k)
  | .field s x k => some (pField T s (strip (σ.ev x)) k)
  | .indexAddr t x i => some (pIndexAddr T t (strip (σ.ev x)) (strip (σ.ev i)))
  | .index t x i => some (pIndex T t (strip (σ.ev x)) (strip (σ.ev i)))
  | .extract x i => some (pExtract (strip (σ.ev x)) i)
  | .slice t x lo hi none => some (pSlice T t (strip (σ.ev x)) (lo.map fun y => strip (σ.ev y)) (hi.map fun y => strip (σ.ev y)))
  | .build t ps => some (pBuild T t (ps.toList.map fun p => (p.1, strip (σ.ev p.2))))
  | .convert s d x => match T s, T d with
    | some ⟨.prim (.int _), _, _, _⟩, some ⟨.prim (.int _), _, _, _⟩ => some (pConv T s d (strip (σ.ev x)))
    | _, _ => none
  | .call ⟨.builtin .len, xs, ts⟩ => match xs.toList, ts.toList with
    | [x], [t] => some (pLen T t (strip (σ.ev x)))
    | _, _ => none
  | .call ⟨.builtin .min, xs, _⟩ => match xs.toList with
    | [x, y] => some (pMin false (strip (σ.ev x)) (strip (σ.ev y)))
    | _ => none
  | .call ⟨.builtin .max, xs, _⟩ => match xs.toList with
    | [x, y] => some (pMin true (strip (σ.ev x)) (strip (σ.ev y)))
    | _ => none
  | _ => none
end Go.Proofs.YtdedmhmomoejkaaDoor.V
