import Derived.Test.YtdedmhmomoejkaaDoorW6
namespace Go.Proofs.YtdedmhmomoejkaaDoor.V
open Go Go.RowKit Go.Proofs.YtdedmhmomoejkaaDoorW.PrintLast
open Go.Proofs
set_option linter.unusedVariables false
set_option linter.unusedSimpArgs false
attribute [local irreducible] awp
set_option maxRecDepth 100000
theorem chr_get (s : ByteArray) (i : Nat) (h : i < s.size) : (s.data.getD i 0) = s.get! i := by
  have : s.data[i]! = s.data[i]'h := getElem!_pos s.data i h
  simp [ByteArray.get!, this, Array.getD, h]
set_option maxHeartbeats 4000000 in
theorem c116 (s : ByteArray) (hs : s.size ≤ 400) : PC Tryd.prog 116 [A.str s] [] (fun r bx => bx = [] ∧ ∃ (x : Int) (b : Bool), r = .tup [([xI x], false), ([xB b], false)] ∧ (b = true → valL (bsL s) = some x) ∧ (b = false → valL (bsL s) = none)) := by
  have hsz := len_bsL s
  by_cases hn : ∃ r0, bsL s = 45 :: r0
  · obtain ⟨dl, hl⟩ := hn
    have hc0 : (bsL s)[0]? = some 45 := by rw [hl]; rfl
    obtain ⟨hp0, _, hg0⟩ := at_list hc0
    have hch : s.data.getD 0 0 = 45 := (chr_get s 0 hp0).trans hg0
    obtain ⟨ds, hdse⟩ : ∃ ds, ds = s.extract 1 s.size := ⟨_, rfl⟩
    have hshape : bsL s = if true then 45 :: dl else dl := hl
    have hne : true = false → ∀ c r, dl = c :: r → c.toNat ≠ 45 := fun h => (nomatch h)
    have hdl : bsL ds = dl := by rw [hdse, bsL_cut s 1 _ (Nat.le_refl _), hl]; exact List.take_of_length_le (by rw [← hsz, hl]; simp)
    have hds : (ds.size : Int) = dl.length := by rw [← len_bsL, hdl]
    have hneg : (decide (0 < (s.size : Int)) && decide (((s.data.getD 0 0).toNat : Int) = 45)) = true := by rw [hch]; simp; omega
    refine enter (rs := [.tmp 2, .tmp 3]) mx Tryd.func116 Tryd.ntmps116 fun Q0 hQ0 => ?_
    refine sq fun _ _ => ?_
    refine rg (sg ?_)
    refine nx ?_
    refine sq fun _ _ => ?_
    refine rg (sg ?_)
    refine nx ?_
    refine sq fun _ _ => ?_
    refine rg (sg ?_)
    refine nx ?_
    refine sq fun _ _ => ?_
    refine sq fun _ _ => ?_
    refine rg (sg ?_)
    refine nx ?_
    simp only [hneg]
    refine ct (hx := ?_)
    refine rg (sg ?_)
    refine and_assoc.2 ?_
    refine And.intro (by first | assumption | omega | rfl | trivial) ?_
    refine And.intro (by first | assumption | omega | rfl | trivial) ?_
    refine nx ?_
    refine sq fun _ _ => ?_
    refine sq fun _ _ => ?_
    refine rg (sg ?_)
    refine nx ?_
    simp only [← hdse]
    skip
    refine cb (fun h1 => ?_) (fun h1 => ?_)
    · have hv : valL (bsL s) = none := val_none true dl _ hshape hne (by rw [hds] at h1; omega)
      refine sq fun _ _ => ?_
      refine rg (sg ?_)
      refine nx ?_
      refine rt (sg ?_)
      refine f2 (g := sg ?_)
      refine ⟨_, _, rfl, rfl, ?_⟩
      exact ax [] ⟨rfl, 0, false, rfl, (fun h => (nomatch h)), fun _ => hv⟩
    · rw [hds] at h1
      refine sk (sg ?_)
      refine nx ?_
      refine sq fun _ _ => ?_
      refine rg (sg ?_)
      refine nx ?_
      refine sq fun _ _ => ?_
      refine sq fun _ _ => ?_
      refine rg (sg ?_)
      refine nx ?_
      refine bl ?_
      refine lp [0, 4, 5, 6, 7] [] (fun k σ => ∃ i : Nat, k = dl.length - i ∧ i ≤ dl.length ∧ (∀ c ∈ dl.take i, digC c = true) ∧ σ = ⟨59, 0, [(0, A.str s), (4, A.bool true), (5, A.str ds), (6, .int .u64 (foldV (dl.take i))), (7, A.int .i64 i)], []⟩) dl.length ?_ ?_
      · exact ⟨0, by omega, by omega, (fun c h => by simp at h), keq⟩
      · rintro k σ' ⟨i, hk, hi, hall, rfl⟩ Q1 hQ1
        have hF := foldV_lt (dl.take i) hall
        rw [List.length_take, Nat.min_eq_left hi] at hF
        have hF2 : foldV (dl.take i) < 10000000000000000000 := Nat.lt_of_lt_of_le hF (Nat.pow_le_pow_right (n := 10) (by decide) (show i ≤ 19 by omega))
        refine sq fun _ _ => ?_
        refine sq fun _ _ => ?_
        refine rg (sg ?_)
        refine nx ?_
        refine cb (fun h2 => ?_) (fun h2 => ?_)
        · have hi2 : i < (ds).size := by omega
          have ha := at_list' hi2
          have hcg := chr_get ds i hi2
          generalize (ds).get! i = c at ha hcg
          rw [hdl] at ha
          have hi3 : i < dl.length := by omega
          have hF3 : foldV (dl.take i) < 1000000000000000000 := Nat.lt_of_lt_of_le hF (Nat.pow_le_pow_right (n := 10) (by decide) (show i ≤ 18 by omega))
          have ht : dl.take (i + 1) = dl.take i ++ [c] := by rw [List.take_add_one, ha]; rfl
          refine sk (sg ?_)
          refine nx ?_
          refine sq fun _ _ => ?_
          refine bl ?_
          refine sq fun _ _ => ?_
          refine sq fun _ _ => ?_
          refine rg (sg ?_)
          refine and_assoc.2 ?_
          refine And.intro (by first | assumption | omega | rfl | trivial) ?_
          refine And.intro (by first | assumption | omega | rfl | trivial) ?_
          refine cl [] (sg ?_)
          refine (c115 _).mono ?_
          rintro r bx ⟨rfl, rfl⟩
          refine sg ?_
          refine nx ?_
          simp only [hcg, isDg_nat]
          refine cb (fun h3 => ?_) (fun h3 => ?_)
          · have hv : valL (bsL s) = none := val_none true dl _ hshape hne (.inr (.inr ⟨c, List.mem_of_getElem? ha, by simpa using h3⟩))
            refine sq fun _ _ => ?_
            refine rg (sg ?_)
            refine nx ?_
            refine rt (sg ?_)
            refine lr (g := sg ?_)
            refine f2 (g := sg ?_)
            refine ⟨_, _, rfl, rfl, ?_⟩
            exact ax [] ⟨rfl, 0, false, rfl, (fun h => (nomatch h)), fun _ => hv⟩
          · have hd : digC c = true := by simpa using h3
            have hall2 : ∀ d ∈ dl.take (i + 1), digC d = true := fun d hd2 => by
              rw [ht] at hd2
              rcases List.mem_append.1 hd2 with h | h
              · exact hall d h
              · rw [List.mem_singleton.1 h]; exact hd
            have hn2 : IntKind.u64.wrap (IntKind.u64.wrap (10 * (foldV (dl.take i) : Int)) + IntKind.u64.wrap (IntKind.u8.wrap ((c.toNat : Int) - 48))) = (foldV (dl.take (i + 1)) : Int) := by
              rw [ht, foldV_snoc]
              simp [digC] at hd
              rw [u64w (10 * _) (by omega) (by omega), IntKind.wrap_u8, u64w (_ % _) (by omega) (by omega), u64w _ (by omega) (by omega)]
              omega
            refine sk (sg ?_)
            refine nx ?_
            refine rg (sg ?_)
            refine and_assoc.2 ?_
            refine And.intro (by first | assumption | omega | rfl | trivial) ?_
            refine And.intro (by first | assumption | omega | rfl | trivial) ?_
            refine nx ?_
            refine rg (sg ?_)
            simp (disch := omega) only [wrap_succ]
            simp only [hcg, hn2]
            refine ln (dl.length - (i + 1)) [] ?_ ?_
            · omega
            exact ⟨i + 1, rfl, by omega, hall2, keq⟩
        · have hi4 : i = dl.length := by omega
          subst hi4
          have hxr : ∀ a, -9223372036854775808 ≤ IntKind.i64.wrap a ∧ IntKind.i64.wrap a ≤ 9223372036854775807 := fun a => by rw [IntKind.wrap_i64]; omega
          refine xt (sg ?_)
          refine lx (g := sg ?_)
          refine nx ?_
          refine sq fun _ _ => ?_
          refine rg (sg ?_)
          refine nx ?_
          refine sq fun _ _ => ?_
          refine sq fun _ _ => ?_
          refine rg (sg ?_)
          refine nx ?_
          refine ct (hx := ?_)
          refine rg (sg ?_)
          refine nx ?_
          refine sq fun _ _ => ?_
          refine rg (sg ?_)
          refine cl [] (sg ?_)
          refine (c153 _ (hxr _).1 (hxr _).2).mono ?_
          rintro r bx ⟨rfl, rfl⟩
          refine sg ?_
          refine nx ?_
          refine rt ?_
          refine f2 (g := sg ?_)
          refine ⟨_, _, rfl, rfl, ?_⟩
          have hend := val_end true dl s hshape hne _ rfl
          refine ax [] ⟨rfl, _, _, rfl, fun h => ?_, fun h => ?_⟩
          · rw [List.take_length] at h ⊢
            exact hend.1 (of_decide_eq_true h)
          · rw [List.take_length] at h
            exact hend.2 (of_decide_eq_false h)
  · obtain ⟨dl, hdl⟩ : ∃ dl, bsL s = dl := ⟨_, rfl⟩
    have hshape : bsL s = if false then 45 :: dl else dl := hdl
    have hne : false = false → ∀ c r, dl = c :: r → c.toNat ≠ 45 := fun _ c r e hc => hn ⟨r, by rw [hdl, e, UInt8.toNat_inj.1 (show c.toNat = (45 : UInt8).toNat from hc)]⟩
    have hds : (s.size : Int) = dl.length := by rw [← len_bsL, hdl]
    have hneg : (decide (0 < (s.size : Int)) && decide (((s.data.getD 0 0).toNat : Int) = 45)) = false := by
      cases hb : bsL s with
      | nil =>
        have : s.size = 0 := by rw [← hsz, hb]; rfl
        simp [this]
      | cons c r =>
        have hc0 : (bsL s)[0]? = some c := by rw [hb]; rfl
        obtain ⟨hp0, _, hg0⟩ := at_list hc0
        rw [chr_get s 0 hp0, hg0]
        have : ¬ c.toNat = 45 := hne rfl c r (by rw [← hdl, hb])
        simp
        omega
    refine enter (rs := [.tmp 2, .tmp 3]) mx Tryd.func116 Tryd.ntmps116 fun Q0 hQ0 => ?_
    refine sq fun _ _ => ?_
    refine rg (sg ?_)
    refine nx ?_
    refine sq fun _ _ => ?_
    refine rg (sg ?_)
    refine nx ?_
    refine sq fun _ _ => ?_
    refine rg (sg ?_)
    refine nx ?_
    refine sq fun _ _ => ?_
    refine sq fun _ _ => ?_
    refine rg (sg ?_)
    refine nx ?_
    simp only [hneg]
    refine cf (hy := ?_)
    refine sk (sg ?_)
    refine nx ?_
    refine sq fun _ _ => ?_
    refine sq fun _ _ => ?_
    refine rg (sg ?_)
    refine nx ?_
    refine cb (fun h1 => ?_) (fun h1 => ?_)
    · have hv : valL (bsL s) = none := val_none false dl _ hshape hne (by rw [hds] at h1; omega)
      refine sq fun _ _ => ?_
      refine rg (sg ?_)
      refine nx ?_
      refine rt (sg ?_)
      refine f2 (g := sg ?_)
      refine ⟨_, _, rfl, rfl, ?_⟩
      exact ax [] ⟨rfl, 0, false, rfl, (fun h => (nomatch h)), fun _ => hv⟩
    · rw [hds] at h1
      refine sk (sg ?_)
      refine nx ?_
      refine sq fun _ _ => ?_
      refine rg (sg ?_)
      refine nx ?_
      refine sq fun _ _ => ?_
      refine sq fun _ _ => ?_
      refine rg (sg ?_)
      refine nx ?_
      refine bl ?_
      refine lp [0, 4, 5, 6, 7] [] (fun k σ => ∃ i : Nat, k = dl.length - i ∧ i ≤ dl.length ∧ (∀ c ∈ dl.take i, digC c = true) ∧ σ = ⟨59, 0, [(0, A.str s), (4, A.bool false), (5, A.str s), (6, .int .u64 (foldV (dl.take i))), (7, A.int .i64 i)], []⟩) dl.length ?_ ?_
      · exact ⟨0, by omega, by omega, (fun c h => by simp at h), keq⟩
      · rintro k σ' ⟨i, hk, hi, hall, rfl⟩ Q1 hQ1
        have hF := foldV_lt (dl.take i) hall
        rw [List.length_take, Nat.min_eq_left hi] at hF
        have hF2 : foldV (dl.take i) < 10000000000000000000 := Nat.lt_of_lt_of_le hF (Nat.pow_le_pow_right (n := 10) (by decide) (show i ≤ 19 by omega))
        refine sq fun _ _ => ?_
        refine sq fun _ _ => ?_
        refine rg (sg ?_)
        refine nx ?_
        refine cb (fun h2 => ?_) (fun h2 => ?_)
        · have hi2 : i < (s).size := by omega
          have ha := at_list' hi2
          have hcg := chr_get s i hi2
          generalize (s).get! i = c at ha hcg
          rw [hdl] at ha
          have hi3 : i < dl.length := by omega
          have hF3 : foldV (dl.take i) < 1000000000000000000 := Nat.lt_of_lt_of_le hF (Nat.pow_le_pow_right (n := 10) (by decide) (show i ≤ 18 by omega))
          have ht : dl.take (i + 1) = dl.take i ++ [c] := by rw [List.take_add_one, ha]; rfl
          refine sk (sg ?_)
          refine nx ?_
          refine sq fun _ _ => ?_
          refine bl ?_
          refine sq fun _ _ => ?_
          refine sq fun _ _ => ?_
          refine rg (sg ?_)
          refine and_assoc.2 ?_
          refine And.intro (by first | assumption | omega | rfl | trivial) ?_
          refine And.intro (by first | assumption | omega | rfl | trivial) ?_
          refine cl [] (sg ?_)
          refine (c115 _).mono ?_
          rintro r bx ⟨rfl, rfl⟩
          refine sg ?_
          refine nx ?_
          simp only [hcg, isDg_nat]
          refine cb (fun h3 => ?_) (fun h3 => ?_)
          · have hv : valL (bsL s) = none := val_none false dl _ hshape hne (.inr (.inr ⟨c, List.mem_of_getElem? ha, by simpa using h3⟩))
            refine sq fun _ _ => ?_
            refine rg (sg ?_)
            refine nx ?_
            refine rt (sg ?_)
            refine lr (g := sg ?_)
            refine f2 (g := sg ?_)
            refine ⟨_, _, rfl, rfl, ?_⟩
            exact ax [] ⟨rfl, 0, false, rfl, (fun h => (nomatch h)), fun _ => hv⟩
          · have hd : digC c = true := by simpa using h3
            have hall2 : ∀ d ∈ dl.take (i + 1), digC d = true := fun d hd2 => by
              rw [ht] at hd2
              rcases List.mem_append.1 hd2 with h | h
              · exact hall d h
              · rw [List.mem_singleton.1 h]; exact hd
            have hn2 : IntKind.u64.wrap (IntKind.u64.wrap (10 * (foldV (dl.take i) : Int)) + IntKind.u64.wrap (IntKind.u8.wrap ((c.toNat : Int) - 48))) = (foldV (dl.take (i + 1)) : Int) := by
              rw [ht, foldV_snoc]
              simp [digC] at hd
              rw [u64w (10 * _) (by omega) (by omega), IntKind.wrap_u8, u64w (_ % _) (by omega) (by omega), u64w _ (by omega) (by omega)]
              omega
            refine sk (sg ?_)
            refine nx ?_
            refine rg (sg ?_)
            refine and_assoc.2 ?_
            refine And.intro (by first | assumption | omega | rfl | trivial) ?_
            refine And.intro (by first | assumption | omega | rfl | trivial) ?_
            refine nx ?_
            refine rg (sg ?_)
            simp (disch := omega) only [wrap_succ]
            simp only [hcg, hn2]
            refine ln (dl.length - (i + 1)) [] ?_ ?_
            · omega
            exact ⟨i + 1, rfl, by omega, hall2, keq⟩
        · have hi4 : i = dl.length := by omega
          subst hi4
          have hxr : ∀ a, -9223372036854775808 ≤ IntKind.i64.wrap a ∧ IntKind.i64.wrap a ≤ 9223372036854775807 := fun a => by rw [IntKind.wrap_i64]; omega
          refine xt (sg ?_)
          refine lx (g := sg ?_)
          refine nx ?_
          refine sq fun _ _ => ?_
          refine rg (sg ?_)
          refine nx ?_
          refine sq fun _ _ => ?_
          refine sq fun _ _ => ?_
          refine rg (sg ?_)
          refine nx ?_
          refine cf (hy := ?_)
          refine sk (sg ?_)
          refine nx ?_
          refine sq fun _ _ => ?_
          refine rg (sg ?_)
          refine cl [] (sg ?_)
          refine (c153 _ (hxr _).1 (hxr _).2).mono ?_
          rintro r bx ⟨rfl, rfl⟩
          refine sg ?_
          refine nx ?_
          refine rt ?_
          refine f2 (g := sg ?_)
          refine ⟨_, _, rfl, rfl, ?_⟩
          have hend := val_end false dl s hshape hne _ rfl
          refine ax [] ⟨rfl, _, _, rfl, fun h => ?_, fun h => ?_⟩
          · rw [List.take_length] at h ⊢
            exact hend.1 (of_decide_eq_true h)
          · rw [List.take_length] at h
            exact hend.2 (of_decide_eq_false h)

end Go.Proofs.YtdedmhmomoejkaaDoor.V
