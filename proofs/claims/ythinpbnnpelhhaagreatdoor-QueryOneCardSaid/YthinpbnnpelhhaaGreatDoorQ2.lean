import Derived.Test.YthinpbnnpelhhaaGreatDoorW1
import Derived.Test.YthinpbnnpelhhaaGreatDoorQ1
import Derived.Lib.Replace
namespace Go.Proofs.YthinpbnnpelhhaaGreatDoor.V
open Go Go.RowKit Go.Proofs.YthinpbnnpelhhaaGreatDoorW.PrintLast
open Go.Proofs
set_option linter.unusedVariables false
set_option linter.unusedSimpArgs false
attribute [local irreducible] awp
set_option maxRecDepth 100000
/-! A text's quotes, doubled: by the library, and by the document's answer. -/
theorem idx_cons (b : UInt8) (l : List UInt8) : Lib.index (b :: l) [39] = if b = 39 then 0 else if Lib.index l [39] == -1 then -1 else Lib.index l [39] + 1 := by
  by_cases h : b = 39
  · subst h
    rw [if_pos rfl, Lib.index]
    simp [List.isPrefixOf]
  · rw [if_neg h, Lib.index]
    have hp : ([39] : List UInt8).isPrefixOf (b :: l) = false := by simp [List.isPrefixOf, Ne.symm h]
    rw [hp]
    simp
theorem rep_esc : ∀ (l : List UInt8) (k : Nat), k = Lib.count l [39] → Lib.replaceK [39] [39, 39] k l = escL l
  | [], k, h => by
    have h0 : k = 0 := by rw [h, Lib.count_one]; rfl
    subst h0
    rfl
  | c :: q, k, h => by
    rw [Lib.count_one] at h
    by_cases hc : c = 39
    · subst hc
      rw [List.count_cons_self] at h
      have hi : Lib.index (39 :: q) [39] = ((0 : Nat) : Int) := by rw [idx_cons, if_pos rfl]; rfl
      rw [h, Lib.replaceK_hit _ _ _ _ 0 hi]
      show [] ++ [39, 39] ++ Lib.replaceK [39] [39, 39] (q.count 39) q = _
      rw [rep_esc q _ (Lib.count_one 39 q).symm, escL, if_pos (by decide)]
      rfl
    · have hn : c.toNat ≠ 39 := fun h => hc (UInt8.toNat_inj.1 h)
      rw [List.count_cons_of_ne (by simpa using hc)] at h
      have ih := rep_esc q k (by rw [h, Lib.count_one])
      rw [escL, if_neg hn, ← ih]
      cases k with
      | zero => rfl
      | succ k =>
        obtain ⟨i, hi⟩ := Lib.index_of_count (s := q) (old := [39]) (by rw [Lib.count_one]; omega)
        have hi2 : Lib.index (c :: q) [39] = ((i + 1 : Nat) : Int) := by
          rw [idx_cons, if_neg hc, hi, if_neg (by simp)]
          rfl
        rw [Lib.replaceK_hit _ _ _ _ _ hi2, Lib.replaceK_hit _ _ _ _ _ hi]
        show (c :: q.take i) ++ [39, 39] ++ Lib.replaceK [39] [39, 39] k (q.drop (i + 1)) = _
        rfl
theorem rep_all (l : List UInt8) : Lib.replaceAll l [39] [39, 39] = escL l := by
  unfold Lib.replaceAll Lib.replace
  rw [if_neg (by decide)]
  exact rep_esc l _ (by unfold Lib.replaceNum; rw [if_pos (.inl (by decide))])
theorem gl_cell {w w0 : World} (hg : ∀ g, g ∈ glIds → w.heap[g]? = w0.heap[g]?) {g : Nat} (hi : g ∈ glIds) {v : Value} (h : w0.cell? ⟨g, 0, none⟩ = some v) : w.cell? ⟨g, 0, none⟩ = some v := by
  unfold World.cell? at h ⊢
  rw [hg g hi]
  exact h
theorem c80 (s : ByteArray) (hs : s.size ≤ 1000) : PC Tryz.prog 80 [A.str s, A.str ⟨#[39]⟩, A.str ⟨#[39, 39]⟩] [] (fun r bx => r = A.str (ofL (escL (bsL s))) ∧ bx = []) :=
  PC_valG [.string s, .string ⟨#[39]⟩, .string ⟨#[39, 39]⟩] (.string (ofL (escL (bsL s)))) Tryz.func80 fun w w0 hst hg => by
    obtain ⟨m, hm⟩ := hst.2.2.2
    have hc := Lib.countB_le ⟨#[39]⟩ (by decide) s.size s (Nat.le_refl _)
    have h2 : (⟨#[39, 39]⟩ : ByteArray).size = 2 := rfl
    refine (Tryz.strings_ReplaceAll s ⟨#[39]⟩ ⟨#[39, 39]⟩ m w (by omega) (gl_cell hg (by decide) hm) (by decide) (by rw [h2]; omega)).mono fun e w' ⟨h, hb⟩ => ⟨?_, hb⟩
    rw [h]
    rw [show Lib.replaceAll s.data.toList (⟨#[39]⟩ : ByteArray).data.toList (⟨#[39, 39]⟩ : ByteArray).data.toList = escL (bsL s) from rep_all (bsL s)]
theorem quoS_app (s : ByteArray) : (⟨#[39]⟩ : ByteArray) ++ ofL (escL (bsL s)) ++ ⟨#[39]⟩ = quoS s := by
  unfold quoS
  apply ByteArray.ext
  simp [ByteArray.data_append]
theorem c62 (s : ByteArray) (hs : s.size ≤ 1000) : PC Tryz.prog 62 [A.str s] [] (fun r bx => r = A.str (quoS s) ∧ bx = []) := by
  have hl := escL_len (bsL s)
  have hsz := len_bsL s
  have hz : (ofL (escL (bsL s))).size ≤ 2000 := by rw [sz_ofL]; omega
  refine enter (rs := [.tmp 2]) mx Tryz.func62 Tryz.ntmps62 fun Q0 hQ0 => ?_
  refine sq fun _ _ => ?_
  refine rg (sg ?_)
  refine nx ?_
  refine sq fun _ _ => ?_
  refine rg (sg ?_)
  refine cl [] (sg ?_)
  refine (c80 _ (by first | assumption | omega | trivial | rfl)).mono ?_
  rintro r bx ⟨rfl, rfl⟩
  refine sg ?_
  refine And.intro (by simp; omega) ?_
  refine And.intro (by simp; omega) ?_
  refine nx ?_
  refine rt ?_
  refine f1 (g := sg ?_)
  refine ax [] ⟨?_, rfl⟩
  rw [quoS_app]
  rfl
set_option maxHeartbeats 4000000 in
theorem c66 (s : ByteArray) (hs : s.size ≤ 1000) : PC Tryz.prog 66 [A.str s] [] (fun r bx => r = A.str (quoS s) ∧ bx = []) := by
  have hsz := len_bsL s
  refine enter (rs := [.tmp 2]) mx Tryz.func66 Tryz.ntmps66 fun Q0 hQ0 => ?_
  refine sq fun _ _ => ?_
  refine rg (sg ?_)
  refine nx ?_
  refine sq fun _ _ => ?_
  refine rg (sg ?_)
  refine nx ?_
  refine sq fun _ _ => ?_
  refine sq fun _ _ => ?_
  refine rg (sg ?_)
  refine nx ?_
  refine bl ?_
  refine lp [0, 3, 4] [0] (fun k σ => ∃ (i : Nat) (acc : List UInt8), k = s.size - i ∧ i ≤ s.size ∧ acc = 39 :: escL ((bsL s).take i) ∧ acc.length ≤ 2 * i + 1 ∧ σ = ⟨29, 0, [(0, A.str s), (3, xOwn 0 1 0 acc.length), (4, A.int .i64 i)], [.arr (acc.map fun x => lc (cBy x)) 1 5]⟩) s.size ?_ ?_
  · exact ⟨0, [39], by omega, by omega, rfl, by simp, keq⟩
  · rintro k σ' ⟨i, acc, hk, hi, hacc, hal, rfl⟩ Q1 hQ1
    refine sq fun _ _ => ?_
    refine sq fun _ _ => ?_
    refine rg (sg ?_)
    refine nx ?_
    refine cb (fun h => ?_) (fun h => ?_)
    · have hi2 : i < s.size := by omega
      have ha := at_list' hi2
      have hcg := chr_get s i hi2
      have htk := List.take_add_one (l := bsL s) (i := i)
      rw [ha] at htk
      generalize s.get! i = c at ha hcg htk
      have hes : escL ((bsL s).take (i + 1)) = escL ((bsL s).take i) ++ (if c.toNat = 39 then [c, 39] else [c]) := by rw [htk]; exact escL_snoc c _
      have hwi : IntKind.i64.wrap ((i : Int) + 1) = ((i + 1 : Nat) : Int) := wrap_succ (by omega)
      refine sk (sg ?_)
      refine nx ?_
      refine sq fun _ _ => ?_
      refine bl ?_
      refine sq fun _ _ => ?_
      refine rg (sg ?_)
      refine and_assoc.2 ?_
      refine And.intro (by first | assumption | omega | rfl | trivial) ?_
      refine And.intro (by first | assumption | omega | rfl | trivial) ?_
      refine And.intro (by first | assumption | omega | rfl | trivial) ?_
      refine And.intro (by simp only [maxLen]; omega) ?_
      refine nx ?_
      refine sq fun _ _ => ?_
      refine rg (sg ?_)
      refine and_assoc.2 ?_
      refine And.intro (by first | assumption | omega | rfl | trivial) ?_
      refine And.intro (by first | assumption | omega | rfl | trivial) ?_
      refine nx ?_
      simp only [hcg]
      refine cb (fun h2 => ?_) (fun h2 => ?_)
      · refine rg (sg ?_)
        refine And.intro (by first | assumption | omega | rfl | trivial) ?_
        refine And.intro (by simp only [maxLen]; omega) ?_
        refine nx ?_
        refine rg (sg ?_)
        simp (disch := omega) only [wrap_succ]
        refine ln (s.size - (i + 1)) [4] ?_ ?_
        · omega
        exact ⟨i + 1, acc ++ [c] ++ [39], by omega, by omega, by rw [hacc, hes, if_pos (by omega)]; simp, by simp; omega, keq⟩
      · refine sk (sg ?_)
        refine nx ?_
        refine rg (sg ?_)
        simp (disch := omega) only [wrap_succ]
        refine ln (s.size - (i + 1)) [2] ?_ ?_
        · omega
        exact ⟨i + 1, acc ++ [c], by omega, by omega, by rw [hacc, hes, if_neg (by omega)]; rfl, by simp; omega, keq⟩
    · have ht : (bsL s).take i = bsL s := List.take_of_length_le (by omega)
      rw [ht] at hacc
      have hmap : List.map (fun x => lc (cBy x)) acc ++ [[L.c (C.v (Value.int IntKind.u8 39))]] = List.map (fun x => lc (cBy x)) (acc ++ [39]) := by rw [List.map_append]; rfl
      refine xt (sg ?_)
      refine lx (g := sg ?_)
      refine nx ?_
      refine sq fun _ _ => ?_
      refine rg (sg ?_)
      refine And.intro (by first | assumption | omega | rfl | trivial) ?_
      refine And.intro (by simp only [maxLen]; omega) ?_
      simp only [hmap, textOf_by]
      refine ⟨allByte_by _, ?_⟩
      refine nx ?_
      refine rt (sg ?_)
      refine f1 (g := sg ?_)
      refine ax [] ⟨?_, rfl⟩
      rw [hacc]
      rfl

end Go.Proofs.YthinpbnnpelhhaaGreatDoor.V
