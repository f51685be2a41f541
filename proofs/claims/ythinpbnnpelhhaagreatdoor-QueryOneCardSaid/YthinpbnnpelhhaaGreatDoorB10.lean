import Derived.Test.YthinpbnnpelhhaaGreatDoorB9
import Derived.Test.YthinpbnnpelhhaaGreatDoorB6
namespace Go.Proofs.YthinpbnnpelhhaaGreatDoor.V
open Go Go.RowKit Go.Proofs.YthinpbnnpelhhaaGreatDoorW.PrintLast
open Go.Proofs
set_option linter.unusedVariables false
set_option linter.unusedSimpArgs false
attribute [local irreducible] awp
set_option maxRecDepth 100000
theorem wsign (m : Int) (h0 : 1 ≤ m) (h1 : m ≤ 6) (w : World) : Calls Tryz.prog 60 #[.int .i64 m] w fun e w' => e = .returned (.string (ofL (signL m))) ∧ w' = w := by
  have hm : m = 1 ∨ m = 2 ∨ m = 3 ∨ m = 4 ∨ m = 5 ∨ m = 6 := by omega
  rcases hm with rfl | rfl | rfl | rfl | rfl | rfl
  · go_enter Tryz.func60, Tryz.ntmps60
    go_wp2
    simp [Instr.index, go_sem]
    go_wp2
    go_ret
    exact ⟨rfl, rfl⟩
  · go_enter Tryz.func60, Tryz.ntmps60
    go_wp2
    simp [Instr.index, go_sem]
    go_wp2
    go_ret
    exact ⟨rfl, rfl⟩
  · go_enter Tryz.func60, Tryz.ntmps60
    go_wp2
    simp [Instr.index, go_sem]
    go_wp2
    go_ret
    exact ⟨rfl, rfl⟩
  · go_enter Tryz.func60, Tryz.ntmps60
    go_wp2
    simp [Instr.index, go_sem]
    go_wp2
    go_ret
    exact ⟨rfl, rfl⟩
  · go_enter Tryz.func60, Tryz.ntmps60
    go_wp2
    simp [Instr.index, go_sem]
    go_wp2
    go_ret
    exact ⟨rfl, rfl⟩
  · go_enter Tryz.func60, Tryz.ntmps60
    go_wp2
    simp [Instr.index, go_sem]
    go_wp2
    go_ret
    exact ⟨rfl, rfl⟩
theorem c60 (m : Int) (h0 : 1 ≤ m) (h1 : m ≤ 6) : PC Tryz.prog 60 [A.int .i64 m] [] (fun r bx => r = A.str (ofL (signL m)) ∧ bx = []) :=
  PC_val [.int .i64 m] (.string (ofL (signL m))) Tryz.func60 fun w => (wsign m h0 h1 w).mono fun e w' ⟨h, h2⟩ => ⟨h, by rw [h2]; exact Below.refl _ _⟩
theorem c61 (ty : Int) (cn : Bool) (ci : Int) (cs : ByteArray) (h0 : -9223372036854775808 ≤ ci) (h1 : ci ≤ 9223372036854775807) (hs : cs.size ≤ 1000) : PC Tryz.prog 61 [A.int .i64 ty, .agg [xB cn, xI ci, xS cs]] [] (fun r bx => r = A.str (ofL (valS ty ⟨cn, ci, cs⟩)) ∧ bx = []) := by
  refine enter (rs := [.tmp 4]) mx Tryz.func61 Tryz.ntmps61 fun Q0 hQ0 => ?_
  refine sq fun _ _ => ?_
  refine rg (sg ?_)
  refine nx ?_
  refine sq fun _ _ => ?_
  refine bl ?_
  refine sq fun _ _ => ?_
  refine rg (sg ?_)
  refine nx ?_
  refine cb (fun g1 => ?_) (fun g1 => ?_)
  · refine sq fun _ _ => ?_
    refine rg (sg ?_)
    refine nx ?_
    refine rt (sg ?_)
    refine f1 (g := sg ?_)
    exact ax [] ⟨congrArg (fun l => A.str (ofL l)) (by simp [valS, g1]), rfl⟩
  · refine sq fun _ _ => ?_
    refine rg (sg ?_)
    refine nx ?_
    refine cb (fun g2 => ?_) (fun g2 => ?_)
    · refine sq fun _ _ => ?_
      refine rg (sg ?_)
      refine cl [] (sg ?_)
      refine (c79 _ (by first | assumption | omega | trivial | rfl) (by first | assumption | omega | trivial | rfl)).mono ?_
      rintro r bx ⟨rfl, rfl⟩
      refine sg ?_
      refine nx ?_
      refine rt (sg ?_)
      refine f1 (g := sg ?_)
      exact ax [] ⟨congrArg (fun l => A.str (ofL l)) (by simp [valS, g1, g2]), rfl⟩
    · refine sq fun _ _ => ?_
      refine rg (sg ?_)
      refine nx ?_
      refine cb (fun g3 => ?_) (fun g3 => ?_)
      · refine sq fun _ _ => ?_
        refine rg (sg ?_)
        refine cl [] (sg ?_)
        refine (c62 _ (by first | assumption | omega | trivial | rfl)).mono ?_
        rintro r bx ⟨rfl, rfl⟩
        refine sg ?_
        refine nx ?_
        refine rt (sg ?_)
        refine f1 (g := sg ?_)
        exact ax [] ⟨congrArg (fun l => A.str (ofL l)) (by simp [valS, g1, g2, g3]; rfl), rfl⟩
      · refine sq fun _ _ => ?_
        refine rg (sg ?_)
        refine nx ?_
        refine cb (fun g4 => ?_) (fun g4 => ?_)
        · refine sq fun _ _ => ?_
          refine rg (sg ?_)
          refine nx ?_
          refine rt (sg ?_)
          refine f1 (g := sg ?_)
          exact ax [] ⟨congrArg (fun l => A.str (ofL l)) (by simp [valS, g1, g2, g3, g4]), rfl⟩
        · rw [Decidable.not_not] at g4
          refine sq fun _ _ => ?_
          refine rg (sg ?_)
          refine nx ?_
          refine cb (fun g5 => ?_) (fun g5 => ?_)
          · refine sq fun _ _ => ?_
            refine rg (sg ?_)
            refine nx ?_
            refine rt (sg ?_)
            refine f1 (g := sg ?_)
            exact ax [] ⟨congrArg (fun l => A.str (ofL l)) (by simp [valS, g1, g2, g3, g4, g5]), rfl⟩
          · rw [Decidable.not_not] at g5
            refine sk (sg ?_)
            refine nx ?_
            refine sq fun _ _ => ?_
            refine rg (sg ?_)
            refine nx ?_
            refine rt ?_
            refine f1 (g := sg ?_)
            exact ax [] ⟨congrArg (fun l => A.str (ofL l)) (by simp [valS, g1, g2, g3, g4, g5]), rfl⟩
theorem par_app (t : List UInt8) : (⟨#[40]⟩ : ByteArray) ++ ofL t ++ ⟨#[41]⟩ = ofL (40 :: (t ++ [41])) := by
  apply ba_ext
  simp [bsL, ByteArray.data_append]
theorem c63 (k : Pr) (must : Bool) (hk : PC Tryz.prog 38 [aPr k] [] (fun r bx => r = A.str (ofL (txP k)) ∧ bx = [])) (hz : (txP k).length ≤ 1000000) : PC Tryz.prog 63 [aPr k, A.bool must] [] (fun r bx => r = A.str (ofL (if must then 40 :: (txP k ++ [41]) else txP k)) ∧ bx = []) := by
  have hz1 : (ofL (txP k)).size ≤ 1000000 := by rw [sz_ofL]; exact hz
  refine enter (rs := [.tmp 4]) mx Tryz.func63 Tryz.ntmps63 fun Q0 hQ0 => ?_
  refine sq fun _ _ => ?_
  refine rg (sg ?_)
  refine nx ?_
  refine sq fun _ _ => ?_
  refine sq fun _ _ => ?_
  refine rg (sg ?_)
  refine nx ?_
  refine cb (fun h1 => ?_) (fun h1 => ?_)
  · subst h1
    refine sq fun _ _ => ?_
    refine rg (sg ?_)
    refine cl [] (sg ?_)
    refine hk.mono ?_
    rintro r bx ⟨rfl, rfl⟩
    refine sg ?_
    refine And.intro (by simp; omega) ?_
    refine And.intro (by simp; omega) ?_
    refine nx ?_
    refine rt (sg ?_)
    refine f1 (g := sg ?_)
    exact ax [] ⟨congrArg A.str (par_app _), rfl⟩
  · rw [Bool.not_eq_true] at h1
    subst h1
    refine sk (sg ?_)
    refine nx ?_
    refine sq fun _ _ => ?_
    refine rg (sg ?_)
    refine cl [] (sg ?_)
    refine hk.mono ?_
    rintro r bx ⟨rfl, rfl⟩
    refine sg ?_
    refine nx ?_
    refine rt ?_
    refine f1 (g := sg ?_)
    exact ax [] ⟨rfl, rfl⟩
theorem par5 (op : Int) (h5 : op = 5) (ko : Int) (h : ko ≤ 7) (t : List UInt8) : (if ko = 6 ∨ ko = 7 then 40 :: (t ++ [41]) else t) = parL op ko t := by
  unfold parL
  by_cases h6 : 6 ≤ ko
  · rw [if_pos (by omega), if_pos (.inl ⟨h5, h6⟩)]
  · rw [if_neg (by omega), if_neg (by omega)]
theorem par6 (op ko : Int) (t : List UInt8) (h5 : op ≠ 5) : (if (decide (op = 6) && decide (ko = 7)) = true then (40 : UInt8) :: (t ++ [41]) else t) = parL op ko t := by
  unfold parL
  by_cases h6 : op = 6 ∧ ko = 7
  · rw [if_pos (by simp [h6]), if_pos (.inr h6)]
  · rw [if_neg (by simpa using h6), if_neg (by omega)]
/-- The kids' texts, as far as they are laid. -/
def dnT (p : Pr) (i : Nat) : List ByteArray := (p.kids.take i).map (fun k => ofL (parL p.op k.op (txP k))) ++ List.replicate (p.kids.length - i) ⟨#[]⟩
theorem dnT_0 (p : Pr) : (dnT p 0).map (fun x => lc (cSt x)) = List.replicate p.kids.length [xS ⟨#[]⟩] := by
  simp [dnT, lc, cSt]
theorem dnT_len (p : Pr) (i : Nat) (h : i ≤ p.kids.length) : (dnT p i).length = p.kids.length := by
  simp [dnT]
  omega
theorem dnT_set (p : Pr) (i : Nat) (h : i < p.kids.length) : (dnT p i).set i (ofL (parL p.op p.kids[i].op (txP p.kids[i]))) = dnT p (i + 1) := by
  have h1 : ((p.kids.take i).map fun k => ofL (parL p.op k.op (txP k))).length = i := by simp; omega
  unfold dnT
  rw [List.set_append, if_neg (by rw [h1]; omega), h1, Nat.sub_self]
  obtain ⟨m, hm⟩ : ∃ m, p.kids.length - i = m + 1 := ⟨p.kids.length - i - 1, by omega⟩
  rw [hm, show p.kids.length - (i + 1) = m by omega, List.replicate_succ, List.set_cons_zero, List.take_add_one, List.getElem?_eq_getElem h, List.map_append, List.append_assoc]
  rfl
theorem dnT_put (p : Pr) (i : Nat) (h : i < p.kids.length) : (List.map (fun x => lc (cSt x)) (dnT p i)).set i (xS (ofL (parL p.op p.kids[i].op (txP p.kids[i]))) :: List.drop 1 ((List.map (fun x => lc (cSt x)) (dnT p i)).getD i [])) = List.map (fun x => lc (cSt x)) (dnT p (i + 1)) := by
  have hl := dnT_len p i (by omega)
  rw [List.getD_eq_getElem?_getD, List.getElem?_map, List.getElem?_eq_getElem (by omega), ← dnT_set p i h, List.map_set]
  rfl
theorem dnT_all (p : Pr) : dnT p p.kids.length = p.kids.map fun k => ofL (parL p.op k.op (txP k)) := by
  simp [dnT]
set_option maxHeartbeats 8000000 in
theorem c38at : ∀ p : Pr, Sm p → Rg p → oneP p = true → p.cnt ≤ 1000 → PC Tryz.prog 38 [aPr p] [] (fun r bx => r = A.str (ofL (txP p)) ∧ bx = []) := by
  refine Pr.by_kids fun p ih hs hr ho hc => ?_
  have hH := oneP_hd ho
  have htx := txP_eq p
  have hlen := hs.len
  refine enter (rs := [.tmp 2]) mx Tryz.func38 Tryz.ntmps38 fun Q0 hQ0 => ?_
  refine sq fun _ _ => ?_
  refine rg (sg ?_)
  refine nx ?_
  refine sq fun _ _ => ?_
  refine sq fun _ _ => ?_
  refine rg (sg ?_)
  refine nx ?_
  refine bl ?_
  refine sq fun _ _ => ?_
  refine rg (sg ?_)
  refine nx ?_
  refine cb (fun g1 => ?_) (fun g1 => ?_)
  · rw [if_pos g1] at htx
    refine sq fun _ _ => ?_
    refine rg (sg ?_)
    refine nx ?_
    refine rt (sg ?_)
    refine f1 (g := sg ?_)
    exact ax [] ⟨by rw [htx]; rfl, rfl⟩
  · rw [if_neg g1] at htx
    refine sq fun _ _ => ?_
    refine rg (sg ?_)
    refine nx ?_
    refine cb (fun g2 => ?_) (fun g2 => ?_)
    · rw [if_pos g2] at htx
      have hcmp : 1 ≤ p.cmp ∧ p.cmp ≤ 6 := by unfold HdP at hH; omega
      have hlo := hr.lo
      have hhi := hr.hi
      have hvs := hs.val
      have hvs1 : p.val.s.size ≤ 1000 := by omega
      have hvl := valS_len p.kind p.val hvs hlo hhi
      have hsl := signL_len p.cmp
      have hcs := hs.col
      have hcl := len_bsL p.col
      have hjn : Lib.join [bsL p.col, bsL (ofL (signL p.cmp)), bsL (ofL (valS p.kind p.val))] (bsL ⟨#[32]⟩) = txP p := by
        rw [htx, bsL_of, bsL_of, show bsL ⟨#[32]⟩ = [32] from rfl, Lib.join_cons]
        simp [Lib.joinTail]
      refine sq fun _ _ => ?_
      refine dr [.take 0, .take 1, .take 2, .take 3, .take 5, .take 6, .take 7, .take 8, .one 4, .one 9, .one 10, .one 11, .pure 12] [] (sg ?_)
      refine cl [] (sg ?_)
      refine (c60 _ (by first | assumption | omega | trivial | rfl) (by first | assumption | omega | trivial | rfl)).mono ?_
      rintro r bx ⟨rfl, rfl⟩
      refine sg ?_
      refine cl [] (sg ?_)
      refine (c61 _ _ _ _ (by first | assumption | omega | trivial | rfl) (by first | assumption | omega | trivial | rfl) (by first | assumption | omega | trivial | rfl)).mono ?_
      rintro r bx ⟨rfl, rfl⟩
      refine sg ?_
      refine cl [] (sg ?_)
      refine (c15 _ [p.col, ofL (signL p.cmp), ofL (valS p.kind p.val)] _ 3 rfl ?_ ?_ (by simp)).mono ?_
      · intro i h
        match i, h with
        | 0, _ => rfl
        | 1, _ => rfl
        | 2, _ => rfl
      · show (Lib.join [bsL p.col, bsL (ofL (signL p.cmp)), bsL (ofL (valS p.kind p.val))] (bsL ⟨#[32]⟩)).length ≤ _
        rw [hjn, htx]
        simp only [List.length_append, List.length_cons]
        omega
      · rintro r bx ⟨rfl, rfl⟩
        refine sg ?_
        simp only [hjn]
        refine .inl ⟨by simp [cleanA, leafIn, cleanL], by trivial, ?_⟩
        refine nx ?_
        refine rt (sg ?_)
        refine f1 (g := sg ?_)
        exact ax [] ⟨rfl, rfl⟩
    · rw [if_neg g2] at htx
      refine sq fun _ _ => ?_
      refine rg (sg ?_)
      refine nx ?_
      refine cb (fun g3 => ?_) (fun g3 => ?_)
      · rw [if_pos g3] at htx
        have hcs := hs.col
        have hz8 : #[32, 105, 115, 32, 110, 117, 108, 108].size = 8 := rfl
        refine sq fun _ _ => ?_
        refine rg (sg ?_)
        refine And.intro (by first | assumption | omega | rfl | trivial) ?_
        refine nx ?_
        refine rt (sg ?_)
        refine f1 (g := sg ?_)
        refine ax [] ⟨?_, rfl⟩
        rw [htx]
        exact congrArg A.str (ba_ext (by simp [bsL, ByteArray.data_append]))
      · rw [if_neg g3] at htx
        refine sq fun _ _ => ?_
        refine rg (sg ?_)
        refine nx ?_
        refine cb (fun g4 => ?_) (fun g4 => ?_)
        · rw [if_pos g4] at htx
          have hcs := hs.col
          have hps := hs.pat
          have hps1 : p.pat.size ≤ 1000 := by omega
          have hqs : (quoS p.pat).size ≤ 202 := quoS_len p.pat hps
          refine sq fun _ _ => ?_
          refine dr [.take 0, .take 1, .take 2, .take 3, .take 4, .one 5, .pure 6, .pure 7] [] (sg ?_)
          refine And.intro (by simp; omega) ?_
          refine cl [] (sg ?_)
          refine (c62 _ (by first | assumption | omega | trivial | rfl)).mono ?_
          rintro r bx ⟨rfl, rfl⟩
          refine sg ?_
          refine And.intro (by simp; omega) ?_
          refine nx ?_
          refine rt (sg ?_)
          refine f1 (g := sg ?_)
          refine ax [] ⟨?_, rfl⟩
          rw [htx]
          exact congrArg A.str (ba_ext (by simp [bsL, ByteArray.data_append]))
        · rw [if_neg g4] at htx
          refine sq fun _ _ => ?_
          refine rg (sg ?_)
          refine nx ?_
          refine cb (fun g5 => ?_) (fun g5 => ?_)
          · have hl1 : p.kids.length = 1 := by unfold HdP at hH; omega
            have hee := el_at (f := cPr) (l := p.kids) (i := 0) (by omega)
            have hk0 : p.kids[0] ∈ p.kids := List.getElem_mem _
            have hkc := cnt_kid hk0
            have hkl := txP_len p.kids[0] (hs.kid _ hk0) (hr.kid _ hk0)
            have hkH := oneP_hd (oneP_kid ho _ hk0)
            have hko : p.kids[0].op ≤ 7 := by unfold HdP at hkH; omega
            refine sq fun _ _ => ?_
            refine dr [.take 0, .take 1, .take 2, .take 3, .take 4, .take 5, .take 6, .take 7, .one 8, .one 9, .pure 10, .pure 11] [] (sg ?_)
            refine And.intro (by first | assumption | omega | rfl | trivial) ?_
            refine And.intro (by first | assumption | omega | rfl | trivial) ?_
            refine cl [] (sg ?_)
            simp (disch := omega) only [el_at]
            refine sg ?_
            refine (c64 _ _ _ _ _ _ _ _ _).mono ?_
            rintro r bx ⟨rfl, rfl⟩
            refine sg ?_
            refine cl [] (sg ?_)
            refine (c63 p.kids[0] _ (ih _ hk0 (hs.kid _ hk0) (hr.kid _ hk0) (oneP_kid ho _ hk0) (by omega)) (by omega)).mono ?_
            rintro r bx ⟨rfl, rfl⟩
            refine sg ?_
            have hT : (if p.kids[0].op = 6 ∨ p.kids[0].op = 7 then (40 : UInt8) :: (txP p.kids[0] ++ [41]) else txP p.kids[0]).length ≤ 1000000 := by
              split
              · simp; omega
              · omega
            refine And.intro (by simp; omega) ?_
            refine nx ?_
            refine rt (sg ?_)
            refine f1 (g := sg ?_)
            refine ax [] ⟨?_, rfl⟩
            have htx2 : txP p = ([110, 111, 116, 32] : List UInt8) ++ (if p.kids[0].op = 6 ∨ p.kids[0].op = 7 then (40 : UInt8) :: (txP p.kids[0] ++ [41]) else txP p.kids[0]) := by
              have hm : p.kids.map (fun k => parL p.op k.op (txP k)) = [parL p.op p.kids[0].op (txP p.kids[0])] := by
                obtain ⟨k, hk⟩ := List.length_eq_one_iff.1 hl1
                simp [hk]
              rw [htx, if_pos g5, par5 p.op g5 p.kids[0].op hko, hm, Lib.join_one]
            rw [htx2]
            exact congrArg A.str (ba_ext (by simp [bsL, ByteArray.data_append]))
          · refine sk (sg ?_)
            refine nx ?_
            refine sq fun _ _ => ?_
            refine rg (sg ?_)
            refine nx ?_
            refine sq fun _ _ => ?_
            refine sq fun _ _ => ?_
            refine rg (sg ?_)
            refine nx ?_
            have hop : p.op = 6 ∨ p.op = 7 := by unfold HdP at hH; omega
            have h5n : p.op ≠ 5 := g5
            refine cb (fun g6 => ?_) (fun g6 => ?_)
            · have hsp : sepL p.op = [32, 97, 110, 100, 32] := by unfold sepL; rw [if_pos g6]
              refine rg (sg ?_)
              refine nx ?_
              refine sq fun _ _ => ?_
              refine rg (sg ?_)
              refine And.intro (by first | assumption | omega | rfl | trivial) ?_
              refine And.intro (by first | assumption | omega | rfl | trivial) ?_
              refine And.intro (by simp only [maxLen]; omega) ?_
              refine And.intro (by first | assumption | omega | rfl | trivial) ?_
              refine nx ?_
              refine sq fun _ _ => ?_
              refine sq fun _ _ => ?_
              refine rg (sg ?_)
              refine nx ?_
              refine bl ?_
              refine lp [1, 3, 4, 60, 61, 62] [0, 1] (fun k σ => ∃ i : Nat, k = p.kids.length - i ∧ i ≤ p.kids.length ∧ σ = ⟨84, 0, [(1, xPtr 0 0), (3, A.str ⟨#[32, 97, 110, 100, 32]⟩), (4, xOwn 1 1 0 p.kids.length), (60, xRow p.kids.length 9 (elemsOf (List.map cPr p.kids))), (61, A.int .i64 p.kids.length), (62, A.int .i64 i)], [.var [xI p.op, xS p.col, xI p.cmp, xB p.val.nl, xI p.val.i, xS p.val.s, xI p.kind, xS p.pat, .c (.sl p.kids.length 9 (elemsOf (p.kids.map cPr)))] 27, .arr ((dnT p i).map fun x => lc (cSt x)) 1 9]⟩) p.kids.length ?_ ?_
              · refine ⟨0, by omega, by omega, ?_⟩
                rw [dnT_0]
                exact keq
              · rintro k σ' ⟨i, hk, hi, rfl⟩ Q1 hQ1
                refine sq fun _ _ => ?_
                refine rg (sg ?_)
                refine nx ?_
                refine sq fun _ _ => ?_
                refine cb (fun hlt => ?_) (fun hlt => ?_)
                · have hin : i < p.kids.length := by omega
                  have hwi : IntKind.i64.wrap ((i : Int) + 1) = ((i + 1 : Nat) : Int) := wrap_succ (by omega)
                  have hee := el_at (f := cPr) hin
                  have hki : p.kids[i] ∈ p.kids := List.getElem_mem hin
                  have hkc := cnt_kid hki
                  have hkl := txP_len p.kids[i] (hs.kid _ hki) (hr.kid _ hki)
                  have hdl : i < (dnT p i).length := by rw [dnT_len p i (by omega)]; exact hin
                  refine sk (sg ?_)
                  refine nx ?_
                  refine sq fun _ _ => ?_
                  refine bl ?_
                  refine sq fun _ _ => ?_
                  refine rg (sg ?_)
                  refine and_assoc.2 ?_
                  refine And.intro (by first | assumption | omega | rfl | trivial) ?_
                  refine And.intro (by first | assumption | omega | rfl | trivial) ?_
                  simp (disch := omega) only [el_at]
                  refine sg ?_
                  refine nx ?_
                  refine rg (sg ?_)
                  refine cl [] (sg ?_)
                  refine (c63 p.kids[i] _ (ih _ hki (hs.kid _ hki) (hr.kid _ hki) (oneP_kid ho _ hki) (by omega)) (by omega)).mono ?_
                  rintro r bx ⟨rfl, rfl⟩
                  refine sg ?_
                  simp only [par6 _ _ _ h5n, dnT_put p i hin]
                  refine and_assoc.2 ?_
                  refine And.intro (by first | assumption | omega | rfl | trivial) ?_
                  refine And.intro (by first | assumption | omega | rfl | trivial) ?_
                  refine And.intro (by first | assumption | omega | rfl | trivial) ?_
                  refine nx ?_
                  refine rg (sg ?_)
                  simp (disch := omega) only [wrap_succ]
                  refine ln (p.kids.length - (i + 1)) [0, 1] ?_ ?_
                  · omega
                  exact ⟨i + 1, by omega, by omega, keq⟩
                · have hie : i = p.kids.length := by omega
                  subst hie
                  have hjn : Lib.join ((dnT p p.kids.length).map bsL) (bsL ⟨#[32, 97, 110, 100, 32]⟩) = txP p := by
                    rw [htx, if_neg h5n, dnT_all, List.map_map, List.nil_append, hsp]
                    rfl
                  have htl := txP_len p hs hr
                  refine xt (sg ?_)
                  refine lx (g := sg ?_)
                  refine nx ?_
                  refine sq fun _ _ => ?_
                  refine rg (sg ?_)
                  refine cl [] (sg ?_)
                  rw [if_pos (by rw [dnT_len _ _ (Nat.le_refl _)]; exact Nat.le_refl _)]
                  refine (c15 _ (dnT p p.kids.length) _ p.kids.length (dnT_len _ _ (Nat.le_refl _)).symm ?_ ?_ (by rw [dnT_len _ _ (Nat.le_refl _)]; omega)).mono ?_
                  · intro j h
                    rw [el_at h]
                    rfl
                  · show (Lib.join ((dnT p p.kids.length).map bsL) (bsL ⟨#[32, 97, 110, 100, 32]⟩)).length ≤ _
                    rw [hjn]
                    omega
                  · rintro r bx ⟨rfl, rfl⟩
                    refine sg ?_
                    simp only [hjn]
                    refine .inl ⟨by simp [cleanA, leafIn, cleanL], by trivial, ?_⟩
                    refine nx ?_
                    refine rt ?_
                    refine f1 (g := sg ?_)
                    exact ax [] ⟨rfl, rfl⟩
            · have hsp : sepL p.op = [32, 111, 114, 32] := by unfold sepL; rw [if_neg g6]
              refine sk (sg ?_)
              refine nx ?_
              refine sq fun _ _ => ?_
              refine rg (sg ?_)
              refine And.intro (by first | assumption | omega | rfl | trivial) ?_
              refine And.intro (by first | assumption | omega | rfl | trivial) ?_
              refine And.intro (by simp only [maxLen]; omega) ?_
              refine And.intro (by first | assumption | omega | rfl | trivial) ?_
              refine nx ?_
              refine sq fun _ _ => ?_
              refine sq fun _ _ => ?_
              refine rg (sg ?_)
              refine nx ?_
              refine bl ?_
              refine lp [1, 3, 4, 60, 61, 62] [0, 1] (fun k σ => ∃ i : Nat, k = p.kids.length - i ∧ i ≤ p.kids.length ∧ σ = ⟨84, 0, [(1, xPtr 0 0), (3, A.str ⟨#[32, 111, 114, 32]⟩), (4, xOwn 1 1 0 p.kids.length), (60, xRow p.kids.length 9 (elemsOf (List.map cPr p.kids))), (61, A.int .i64 p.kids.length), (62, A.int .i64 i)], [.var [xI p.op, xS p.col, xI p.cmp, xB p.val.nl, xI p.val.i, xS p.val.s, xI p.kind, xS p.pat, .c (.sl p.kids.length 9 (elemsOf (p.kids.map cPr)))] 27, .arr ((dnT p i).map fun x => lc (cSt x)) 1 9]⟩) p.kids.length ?_ ?_
              · refine ⟨0, by omega, by omega, ?_⟩
                rw [dnT_0]
                exact keq
              · rintro k σ' ⟨i, hk, hi, rfl⟩ Q1 hQ1
                refine sq fun _ _ => ?_
                refine rg (sg ?_)
                refine nx ?_
                refine sq fun _ _ => ?_
                refine cb (fun hlt => ?_) (fun hlt => ?_)
                · have hin : i < p.kids.length := by omega
                  have hwi : IntKind.i64.wrap ((i : Int) + 1) = ((i + 1 : Nat) : Int) := wrap_succ (by omega)
                  have hee := el_at (f := cPr) hin
                  have hki : p.kids[i] ∈ p.kids := List.getElem_mem hin
                  have hkc := cnt_kid hki
                  have hkl := txP_len p.kids[i] (hs.kid _ hki) (hr.kid _ hki)
                  have hdl : i < (dnT p i).length := by rw [dnT_len p i (by omega)]; exact hin
                  refine sk (sg ?_)
                  refine nx ?_
                  refine sq fun _ _ => ?_
                  refine bl ?_
                  refine sq fun _ _ => ?_
                  refine rg (sg ?_)
                  refine and_assoc.2 ?_
                  refine And.intro (by first | assumption | omega | rfl | trivial) ?_
                  refine And.intro (by first | assumption | omega | rfl | trivial) ?_
                  simp (disch := omega) only [el_at]
                  refine sg ?_
                  refine nx ?_
                  refine rg (sg ?_)
                  refine cl [] (sg ?_)
                  refine (c63 p.kids[i] _ (ih _ hki (hs.kid _ hki) (hr.kid _ hki) (oneP_kid ho _ hki) (by omega)) (by omega)).mono ?_
                  rintro r bx ⟨rfl, rfl⟩
                  refine sg ?_
                  simp only [par6 _ _ _ h5n, dnT_put p i hin]
                  refine and_assoc.2 ?_
                  refine And.intro (by first | assumption | omega | rfl | trivial) ?_
                  refine And.intro (by first | assumption | omega | rfl | trivial) ?_
                  refine And.intro (by first | assumption | omega | rfl | trivial) ?_
                  refine nx ?_
                  refine rg (sg ?_)
                  simp (disch := omega) only [wrap_succ]
                  refine ln (p.kids.length - (i + 1)) [0, 1] ?_ ?_
                  · omega
                  exact ⟨i + 1, by omega, by omega, keq⟩
                · have hie : i = p.kids.length := by omega
                  subst hie
                  have hjn : Lib.join ((dnT p p.kids.length).map bsL) (bsL ⟨#[32, 111, 114, 32]⟩) = txP p := by
                    rw [htx, if_neg h5n, dnT_all, List.map_map, List.nil_append, hsp]
                    rfl
                  have htl := txP_len p hs hr
                  refine xt (sg ?_)
                  refine lx (g := sg ?_)
                  refine nx ?_
                  refine sq fun _ _ => ?_
                  refine rg (sg ?_)
                  refine cl [] (sg ?_)
                  rw [if_pos (by rw [dnT_len _ _ (Nat.le_refl _)]; exact Nat.le_refl _)]
                  refine (c15 _ (dnT p p.kids.length) _ p.kids.length (dnT_len _ _ (Nat.le_refl _)).symm ?_ ?_ (by rw [dnT_len _ _ (Nat.le_refl _)]; omega)).mono ?_
                  · intro j h
                    rw [el_at h]
                    rfl
                  · show (Lib.join ((dnT p p.kids.length).map bsL) (bsL ⟨#[32, 111, 114, 32]⟩)).length ≤ _
                    rw [hjn]
                    omega
                  · rintro r bx ⟨rfl, rfl⟩
                    refine sg ?_
                    simp only [hjn]
                    refine .inl ⟨by simp [cleanA, leafIn, cleanL], by trivial, ?_⟩
                    refine nx ?_
                    refine rt ?_
                    refine f1 (g := sg ?_)
                    exact ax [] ⟨rfl, rfl⟩

end Go.Proofs.YthinpbnnpelhhaaGreatDoor.V
