import Derived.Test.YtdedmhmomoejkaaDoorV21
import Derived.Test.YtdedmhmomoejkaaDoorSh
namespace Go.Proofs.YtdedmhmomoejkaaDoor.V
open Go Go.RowKit Go.Proofs.YtdedmhmomoejkaaDoorW.PrintLast
open Go.Proofs
set_option linter.unusedVariables false
set_option linter.unusedSimpArgs false
attribute [local irreducible] awp
--IMP V21 Sh
/-! The words of gen: what is drawn, of what. -/
structure Ce where
  nl : Bool
  i : Int
  s : ByteArray
structure Co where
  nm : ByteArray
  ty : Int
  nl : Bool
inductive Pr where
  | mk (op : Int) (col : ByteArray) (cmp : Int) (val : Ce) (kind : Int) (pat : ByteArray) (kids : List Pr)
structure Ae where
  op : Int
  col : ByteArray
structure Qu where
  table : ByteArray
  cols : List ByteArray
  whr : Pr
  aggs : List Ae
  by_ : ByteArray
structure Opn where
  kind : Int
  table : ByteArray
  cols : List Co
  rows : List (List Ce)
  whr : Pr
  q : Qu
def cCe (x : Ce) : List C := [.v (.bool x.nl), .v (.int .i64 x.i), .v (.string x.s)]
def cCo (x : Co) : List C := [.v (.string x.nm), .v (.int .i64 x.ty), .v (.bool x.nl)]
def cAe (x : Ae) : List C := [.v (.int .i64 x.op), .v (.string x.col)]
def cSt (x : ByteArray) : List C := [.v (.string x)]
abbrev aCe (x : Ce) : A := .agg [.c (.v (.bool x.nl)), .c (.v (.int .i64 x.i)), .c (.v (.string x.s))]
abbrev aCo (x : Co) : A := .agg [.c (.v (.string x.nm)), .c (.v (.int .i64 x.ty)), .c (.v (.bool x.nl))]
theorem el_Ce0 (x : Ce) : el (cCe x) 0 = .v (.bool x.nl) := rfl
theorem el_Ce1 (x : Ce) : el (cCe x) 1 = .v (.int .i64 x.i) := rfl
theorem el_Ce2 (x : Ce) : el (cCe x) 2 = .v (.string x.s) := rfl
theorem el_Co0 (x : Co) : el (cCo x) 0 = .v (.string x.nm) := rfl
theorem el_Co1 (x : Co) : el (cCo x) 1 = .v (.int .i64 x.ty) := rfl
theorem el_Co2 (x : Co) : el (cCo x) 2 = .v (.bool x.nl) := rfl
attribute [go_sem] aCe aCo el_Ce0 el_Ce1 el_Ce2 el_Co0 el_Co1 el_Co2
mutual
def cPr : Pr → List C
  | .mk op col cmp val kind pat kids => [.v (.int .i64 op), .v (.string col), .v (.int .i64 cmp), .v (.bool val.nl), .v (.int .i64 val.i), .v (.string val.s), .v (.int .i64 kind), .v (.string pat), .sl kids.length 9 (elemsOf (cPrs kids))]
def cPrs : List Pr → List (List C)
  | [] => []
  | x :: r => cPr x :: cPrs r
end
def cRow (r : List Ce) : List C := [rowA 3 cCe r]
def cQu (x : Qu) : List C := [.v (.string x.table), rowA 1 cSt x.cols] ++ cPr x.whr ++ [rowA 2 cAe x.aggs, .v (.string x.by_)]
def cOp (x : Opn) : List C := [.v (.int .i64 x.kind), .v (.string x.table), rowA 3 cCo x.cols, rowA 1 cRow x.rows] ++ cPr x.whr ++ cQu x.q
def pr0 : Pr := .mk 0 ⟨#[]⟩ 0 ⟨false, 0, ⟨#[]⟩⟩ 0 ⟨#[]⟩ []
def qu0 : Qu := ⟨⟨#[]⟩, [], pr0, [], ⟨#[]⟩⟩
/-- The next state, and a number drawn of it. -/
def nxt (a : Int) : Int := IntKind.u64.wrap (IntKind.u64.wrap (a * 6364136223846793005) + 1442695040888963407)
def drw (k a : Int) : Int := IntKind.i64.wrap ((nxt a).fdiv (2 ^ min (Int.toNat 33) IntKind.u64.bits) |>.tmod (IntKind.u64.wrap k))
def abc (k : Int) : ByteArray := if k = 0 then ⟨#[97]⟩ else if k = 1 then ⟨#[98]⟩ else ⟨#[99]⟩
def numS (a : Int) : Ce × Int := (⟨false, IntKind.i64.wrap (drw 20 a - 5), ⟨#[]⟩⟩, nxt a)
/-- The drawer, as the calls know it. -/
abbrev dA : A := .one (.fn 73 [0])
abbrev dB (a : Int) : B := .var [.c (.v (.int .u64 a))] 22
def repS (x : ByteArray) (n : Int) : ByteArray := ⟨(Lib.repeatL x.data.toList n.toNat).toArray⟩
def digS : ByteArray := ⟨#[48, 49, 50, 51, 52, 53, 54, 55, 56, 57, 97, 98, 99, 100, 101, 102, 103, 104, 105, 106, 107, 108, 109, 110, 111, 112, 113, 114, 115, 116, 117, 118, 119, 120, 121, 122]⟩
def dgt (n : Int) : ByteArray := digS.extract n.toNat (IntKind.i64.wrap (n + 1)).toNat
def bA : ByteArray := ⟨#[97]⟩
def col3 : List Co := [⟨⟨#[97]⟩, 1, false⟩, ⟨⟨#[98]⟩, 3, true⟩, ⟨⟨#[99]⟩, 2, true⟩]
def colsS (t : Int) : List Co := if t < 0 ∨ 2 < t then [] else col3.take (t + 1).toNat
def cellS (ty a : Int) : Ce × Int :=
  if ty = 1 then numS a
  else if ty = 3 then (if 0 < drw 4 a then (⟨false, 0, repS (abc (drw 3 (nxt a))) (drw 4 a)⟩, nxt (nxt a)) else (⟨true, 0, ⟨#[]⟩⟩, nxt a))
  else (if 0 < drw 3 a then (⟨false, IntKind.i64.wrap (drw 3 a - 1), ⟨#[]⟩⟩, nxt a) else (⟨true, 0, ⟨#[]⟩⟩, nxt a))
def rowS (l : List Co) (a : Int) : List Ce × Int := l.foldl (fun s c => (s.1 ++ [(cellS c.ty s.2).1], (cellS c.ty s.2).2)) ([], a)
def rowsS (cols : List Co) : Nat → Int → List (List Ce) × Int
  | 0, a => ([], a)
  | n + 1, a => ((rowsS cols n a).1 ++ [(rowS cols (rowsS cols n a).2).1], (rowS cols (rowsS cols n a).2).2)
def rows1 (cols : List Co) (a : Int) : List (List Ce) × Int := rowsS cols (1 + drw 4 a).toNat (nxt a)
def whereS (cmp a : Int) : Pr × Int := (.mk 2 bA cmp (numS a).1 1 ⟨#[]⟩ [], (numS a).2)
def aggs2 : List Ae := [⟨1, ⟨#[]⟩⟩, ⟨3, bA⟩]
def scanS (name : ByteArray) (a : Int) : Opn × Int :=
  let w := whereS 6 a
  (⟨9, ⟨#[]⟩, [], [], pr0, ⟨name, [], w.1, if drw 2 w.2 = 1 then aggs2 else [], ⟨#[]⟩⟩⟩, nxt w.2)
def nameS (t : Int) : ByteArray := ⟨#[116]⟩ ++ dgt t
def oneS (a : Int) : Opn × Int :=
  let k := drw 12 a
  let t := drw 3 (nxt a)
  let a2 := nxt (nxt a)
  if k = 0 then (⟨1, nameS t, colsS t, [], pr0, qu0⟩, a2)
  else if k < 5 then (⟨3, nameS t, [], (rows1 (colsS t) a2).1, pr0, qu0⟩, (rows1 (colsS t) a2).2)
  else if k = 5 then (⟨4, nameS t, [], [], (whereS 3 a2).1, qu0⟩, (whereS 3 a2).2)
  else if k < 9 then scanS (nameS t) a2
  else if k = 9 then (⟨5, nameS t, [], [], pr0, qu0⟩, a2)
  else if k = 10 then (⟨6, ⟨#[]⟩, [], [], pr0, qu0⟩, a2)
  else (⟨8, nameS t, [], [], pr0, qu0⟩, a2)
def opsS : Nat → Int → List Opn × Int
  | 0, a => ([], a)
  | n + 1, a => ((opsS n a).1 ++ [(oneS (opsS n a).2).1], (oneS (opsS n a).2).2)
end Go.Proofs.YtdedmhmomoejkaaDoor.V
