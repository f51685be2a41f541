/- Words and walks for X.pruneSafe_holds, part 8 of the texts that a program of this session laid together. -/
import Derived.Test.YtdedmhmomoejkaaS1
import Derived.Test.YtdedmhmomoejkaaS7
namespace Go.Proofs.Ytdedmhmomoejkaa.X
set_option maxHeartbeats 8000000
set_option maxRecDepth 100000
open Go.RowKit Go.Proofs.YtdedmhmomoejkaaW.PrintWords Go.Proofs.YtdedmhmomoejkaaW.PrintLast Go.Proofs.YtdedmhmomoejkaaW.PrintMore
attribute [local go_sem] max2_int max_two
set_option linter.unusedVariables false
set_option linter.unusedSimpArgs false
attribute [local go_sem high] eqA24
def Cb.f (a0_0 : Int) (a0_1 : ByteArray) (a0_2 : Int) (a0_3 : Bool) (a0_4 : Int) (a0_5 : ByteArray) (a0_6 : Int) (a0_7 : ByteArray) (l0_8 : List (S27)) (a1_0 : Int) (a1_1 : ByteArray) (a1_2 : Int) (a1_3 : Bool) (a1_4 : Int) (a1_5 : ByteArray) (a1_6 : Int) (a1_7 : ByteArray) (l1_8 : List (S27)) : Option (Bool) := if a0_0 = a1_0 then (if a0_1.toList = a1_1.toList then (if a0_2 = a1_2 then (if (a0_3 == a1_3 && (a0_4 == a1_4 && (a0_5.toList == a1_5.toList))) = true then (if a0_6 = a1_6 then (some (a0_7.toList == a1_7.toList)) else (some false)) else (some false)) else (some false)) else (some false)) else (some false)
theorem Cb.calls (a0_0 : Int) (a0_1 : ByteArray) (a0_2 : Int) (a0_3 : Bool) (a0_4 : Int) (a0_5 : ByteArray) (a0_6 : Int) (a0_7 : ByteArray) (A0_8 : Option Addr) (c0_8 : Nat) (l0_8 : List (S27)) (a1_0 : Int) (a1_1 : ByteArray) (a1_2 : Int) (a1_3 : Bool) (a1_4 : Int) (a1_5 : ByteArray) (a1_6 : Int) (a1_7 : ByteArray) (A1_8 : Option Addr) (c1_8 : Nat) (l1_8 : List (S27)) (r : Bool) (w : World) (hr0_8 : Kd.C k27 w A0_8 l0_8.length l0_8) (hc0_8 : l0_8.length ≤ c0_8) (hr1_8 : Kd.C k27 w A1_8 l1_8.length l1_8) (hc1_8 : l1_8.length ≤ c1_8) (h : Cb.f a0_0 a0_1 a0_2 a0_3 a0_4 a0_5 a0_6 a0_7 l0_8 a1_0 a1_1 a1_2 a1_3 a1_4 a1_5 a1_6 a1_7 l1_8 = some r) :
  Calls Try.prog 98 #[.agg #[.int .i64 a0_0, .string a0_1, .int .i64 a0_2, .bool a0_3, .int .i64 a0_4, .string a0_5, .int .i64 a0_6, .string a0_7, .slice A0_8 l0_8.length c0_8], .agg #[.int .i64 a1_0, .string a1_1, .int .i64 a1_2, .bool a1_3, .int .i64 a1_4, .string a1_5, .int .i64 a1_6, .string a1_7, .slice A1_8 l1_8.length c1_8]] w fun e w' => e = .returned (.bool r) ∧ Below w.heap.size w w' := by
 have hu27 := Try.underlying27
 have hu24 := Try.underlying24
 have HR0_8 := Aa.mk hr0_8
 have HC0_8 := Aa.mk hc0_8
 clear hr0_8 hc0_8
 have HR1_8 := Aa.mk hr1_8
 have HC1_8 := Aa.mk hc1_8
 clear hr1_8 hc1_8
 have HB := Aa.mk (Below.refl w.heap.size w)
 have H : (if a0_0 = a1_0 then (if a0_1.toList = a1_1.toList then (if a0_2 = a1_2 then (if (a0_3 == a1_3 && (a0_4 == a1_4 && (a0_5.toList == a1_5.toList))) = true then (if a0_6 = a1_6 then (some (a0_7.toList == a1_7.toList)) else (some false)) else (some false)) else (some false)) else (some false)) else (some false)) = some r := h
 clear h
 by_cases c3 : a0_0 = a1_0
 rotate_left
 focus(
 rw [if_neg c3] at H
 have c3b0 : (a0_0 == a1_0) = false := Dj c3
 have c3b1 : (a0_0 != a1_0) = true := Dm c3)
 rotate_right
 focus(
 rw [if_pos c3] at H
 have c3b0 : (a0_0 == a1_0) = true := Dl c3
 have c3b1 : (a0_0 != a1_0) = false := Dk c3
 clear c3
 by_cases c4 : a0_1.toList = a1_1.toList
 rotate_left
 focus(
 rw [if_neg c4] at H
 have c4b0 : (a0_1.toList == a1_1.toList) = false := Dj c4
 have c4b1 : (a0_1.toList != a1_1.toList) = true := Dm c4)
 rotate_right
 focus(
 rw [if_pos c4] at H
 have c4b0 : (a0_1.toList == a1_1.toList) = true := Dl c4
 have c4b1 : (a0_1.toList != a1_1.toList) = false := Dk c4
 clear c4
 by_cases c5 : a0_2 = a1_2
 rotate_left
 focus(
 rw [if_neg c5] at H
 have c5b0 : (a0_2 == a1_2) = false := Dj c5
 have c5b1 : (a0_2 != a1_2) = true := Dm c5)
 rotate_right
 focus(
 rw [if_pos c5] at H
 have c5b0 : (a0_2 == a1_2) = true := Dl c5
 have c5b1 : (a0_2 != a1_2) = false := Dk c5
 clear c5
 by_cases c6 : (a0_3 == a1_3 && (a0_4 == a1_4 && (a0_5.toList == a1_5.toList))) = true
 rotate_left
 focus(
 rw [if_neg c6] at H
 have c6b0 : (a0_3 == a1_3 && (a0_4 == a1_4 && (a0_5.toList == a1_5.toList))) = false := by simpa using c6
 (try (have c6b1 : decide (a0_3 = a1_3 && (a0_4 == a1_4 && (a0_5.toList == a1_5.toList))) = false := by simpa using c6))
 (try (have c6b2 : (a0_3 == a1_3 && (a0_4 == a1_4 && (a0_5.toList == a1_5.toList))) = false := by simpa using c6))
 (try (have c6b3 : ¬ (a0_3 = a1_3 && (a0_4 == a1_4 && (a0_5.toList == a1_5.toList))) := by simpa using c6))
 clear c6)
 rotate_right
 focus(
 rw [if_pos c6] at H
 have c6b0 : (a0_3 == a1_3 && (a0_4 == a1_4 && (a0_5.toList == a1_5.toList))) = true := c6
 (try (have c6b1 : decide (a0_3 = a1_3 && (a0_4 == a1_4 && (a0_5.toList == a1_5.toList))) = true := by simpa using c6))
 (try (have c6b2 : (a0_3 == a1_3 && (a0_4 == a1_4 && (a0_5.toList == a1_5.toList))) = true := by simpa using c6))
 clear c6
 by_cases c7 : a0_6 = a1_6
 rotate_left
 focus(
 rw [if_neg c7] at H
 have c7b0 : (a0_6 == a1_6) = false := Dj c7
 have c7b1 : (a0_6 != a1_6) = true := Dm c7)
 rotate_right
 focus(
 rw [if_pos c7] at H
 have c7b0 : (a0_6 == a1_6) = true := Dl c7
 have c7b1 : (a0_6 != a1_6) = false := Dk c7
 clear c7)))))
 all_goals(
 obtain rfl := Dp H
 go_enter Try.func98, Try.ntmps98
 go_wp2_with (first | (refine bx_ (N := 2) (cs := #[.int .i64 a0_0, .string a0_1, .int .i64 a0_2, .bool a0_3, .int .i64 a0_4, .string a0_5, .int .i64 a0_6, .string a0_7, .slice A0_8 l0_8.length c0_8]) (t := 27) ?_; intro gb263 hg w8 hbox hb; have BK263 := Aa.mk (hbox); have GW263 := ge_ HB hg; have GE263 := ge_ HB hg; replace HB := bs_ HB hb; clear hb hbox hg) | (refine bx_ (N := 3) (cs := #[.int .i64 a1_0, .string a1_1, .int .i64 a1_2, .bool a1_3, .int .i64 a1_4, .string a1_5, .int .i64 a1_6, .string a1_7, .slice A1_8 l1_8.length c1_8]) (t := 27) ?_; intro gb264 hg w9 hbox hb; have BK264 := Aa.mk (hbox); have GW264 := ge_ HB hg; have GE264 := ge_ HB hg; have NB263_264 := lt_ BK263 hg; have NB264_263 := gt_ BK263 hg; replace BK263 := bk_ BK263 hb; replace HB := bs_ HB hb; clear hb hbox hg; have hnb10 := NB263_264.out; have hnc10 := NB264_263.out; obtain ⟨C11_0, C11_1, C11_2, C11_3, C11_4, C11_5, C11_6, C11_7, C11_8⟩ := zc9_ BK263.out; obtain ⟨F11_0, F11_1, F11_2, F11_3, F11_4, F11_5, F11_6, F11_7, F11_8⟩ := zf9_ BK263.out; obtain ⟨C12_0, C12_1, C12_2, C12_3, C12_4, C12_5, C12_6, C12_7, C12_8⟩ := zc9_ BK264.out; obtain ⟨F12_0, F12_1, F12_2, F12_3, F12_4, F12_5, F12_6, F12_7, F12_8⟩ := zf9_ BK264.out))
 go_ret
 exact en_ HB)
mutual
def An.j1 : Nat → Int → ByteArray → Int → Bool → Int → ByteArray → Int → ByteArray → List (S27) → Int → ByteArray → Int → Bool → Int → ByteArray → Int → ByteArray → Int → ByteArray → Int → Bool → Int → ByteArray → Int → ByteArray → Option (Bool)
 | 0, _, _, _, _, _, _, _, _, _, _, _, _, _, _, _, _, _, _, _, _, _, _, _, _, _ => none
 | k + 1, x266000, x266001, x266002, x266003, x266004, x266005, x266006, x266007, x266008, x267000, x267001, x267002, x267003, x267004, x267005, x267006, x267007, x268000, x268001, x268002, x268003, x268004, x268005, x268006, x268007 => if x266000 < 5 then (if (x266008.length : Int) > 0 then (An.j2 k true x266000 x266001 x266002 x266003 x266004 x266005 x266006 x266007 x266008) else ((Cb.f x267000 x267001 x267002 x267003 x267004 x267005 x267006 x267007 ([] : List (S27)) x268000 x268001 x268002 x268003 x268004 x268005 x268006 x268007 ([] : List (S27))).bind fun t272 => (An.j2 k (!t272) x266000 x266001 x266002 x266003 x266004 x266005 x266006 x266007 x266008))) else ((Cb.f x267000 x267001 x267002 x267003 x267004 x267005 x267006 x267007 ([] : List (S27)) x268000 x268001 x268002 x268003 x268004 x268005 x268006 x268007 ([] : List (S27))).bind fun t273 => (An.j2 k (!t273) x266000 x266001 x266002 x266003 x266004 x266005 x266006 x266007 x266008))
def An.j2 : Nat → Bool → Int → ByteArray → Int → Bool → Int → ByteArray → Int → ByteArray → List (S27) → Option (Bool)
 | 0, _, _, _, _, _, _, _, _, _, _ => none
 | k + 1, x107, x266000, x266001, x266002, x266003, x266004, x266005, x266006, x266007, x266008 => if x107 = true then (some false) else (An.l0 k 0 x266000 x266001 x266002 x266003 x266004 x266005 x266006 x266007 x266008)
def An.l0 : Nat → Int → Int → ByteArray → Int → Bool → Int → ByteArray → Int → ByteArray → List (S27) → Option (Bool)
 | 0, _, _, _, _, _, _, _, _, _, _ => none
 | k + 1, x5, x266000, x266001, x266002, x266003, x266004, x266005, x266006, x266007, x266008 => if x5 < (x266008.length : Int) then (if 0 ≤ x5 then ((An.f k ((Al x266008 x5).f0) ((Al x266008 x5).f1) ((Al x266008 x5).f2) ((Al x266008 x5).f3.f0) ((Al x266008 x5).f3.f1) ((Al x266008 x5).f3.f2) ((Al x266008 x5).f4) ((Al x266008 x5).f5) ((Al x266008 x5).f6)).bind fun t275 => (if t275 = true then (if x266000 ≥ 6 then (if ((Al x266008 x5).f0) = x266000 then (some false) else (An.l0 k (wrap64 (x5 + 1)) x266000 x266001 x266002 x266003 x266004 x266005 x266006 x266007 x266008)) else (An.l0 k (wrap64 (x5 + 1)) x266000 x266001 x266002 x266003 x266004 x266005 x266006 x266007 x266008)) else (some false))) else (none)) else (some true)
def An.j0 : Nat → Bool → Int → ByteArray → Int → Bool → Int → ByteArray → Int → ByteArray → List (S27) → Int → ByteArray → Int → Bool → Int → ByteArray → Int → ByteArray → Int → ByteArray → Int → Bool → Int → ByteArray → Int → ByteArray → Option (Bool)
 | 0, _, _, _, _, _, _, _, _, _, _, _, _, _, _, _, _, _, _, _, _, _, _, _, _, _, _ => none
 | k + 1, x86, x266000, x266001, x266002, x266003, x266004, x266005, x266006, x266007, x266008, x267000, x267001, x267002, x267003, x267004, x267005, x267006, x267007, x268000, x268001, x268002, x268003, x268004, x268005, x268006, x268007 => if x86 = true then (if (x266008.length : Int) < 2 then (some false) else (An.j1 k x266000 x266001 x266002 x266003 x266004 x266005 x266006 x266007 x266008 x267000 x267001 x267002 x267003 x267004 x267005 x267006 x267007 x268000 x268001 x268002 x268003 x268004 x268005 x268006 x268007)) else (some false)
def An.f : Nat → Int → ByteArray → Int → Bool → Int → ByteArray → Int → ByteArray → List (S27) → Option (Bool)
 | 0, _, _, _, _, _, _, _, _, _ => none
 | k + 1, a0_0, a0_1, a0_2, a0_3, a0_4, a0_5, a0_6, a0_7, l0_8 => if a0_0 = 1 then (An.j1 k a0_0 a0_1 a0_2 a0_3 a0_4 a0_5 a0_6 a0_7 l0_8 a0_0 a0_1 a0_2 a0_3 a0_4 a0_5 a0_6 a0_7 a0_0 (⟨#[]⟩ : ByteArray) 0 false 0 (⟨#[]⟩ : ByteArray) 0 (⟨#[]⟩ : ByteArray)) else (if a0_0 = 2 then ((Aq.f k a0_1).bind fun t268 => (if t268 = true then (if a0_2 < 1 then (some false) else (if a0_2 > 6 then (some false) else ((Bk.f k a0_6 false a0_3 a0_4 a0_5).bind fun t269 => (if t269 = true then (An.j1 k a0_0 a0_1 a0_2 a0_3 a0_4 a0_5 a0_6 a0_7 l0_8 a0_0 a0_1 a0_2 a0_3 a0_4 a0_5 a0_6 a0_7 a0_0 a0_1 a0_2 a0_3 a0_4 a0_5 a0_6 (⟨#[]⟩ : ByteArray)) else (some false))))) else (some false))) else (if a0_0 = 3 then ((Aq.f k a0_1).bind fun t270 => (if t270 = true then (An.j1 k a0_0 a0_1 a0_2 a0_3 a0_4 a0_5 a0_6 a0_7 l0_8 a0_0 a0_1 a0_2 a0_3 a0_4 a0_5 a0_6 a0_7 a0_0 a0_1 0 false 0 (⟨#[]⟩ : ByteArray) 0 (⟨#[]⟩ : ByteArray)) else (some false))) else (if a0_0 = 4 then ((Aq.f k a0_1).bind fun t271 => (if t271 = true then (if (a0_7.size : Int) > 40 then (some false) else (An.j1 k a0_0 a0_1 a0_2 a0_3 a0_4 a0_5 a0_6 a0_7 l0_8 a0_0 a0_1 a0_2 a0_3 a0_4 a0_5 a0_6 a0_7 a0_0 a0_1 0 false 0 (⟨#[]⟩ : ByteArray) 0 a0_7)) else (some false))) else (if a0_0 = 5 then (if (l0_8.length : Int) = 1 then (An.j1 k a0_0 a0_1 a0_2 a0_3 a0_4 a0_5 a0_6 a0_7 l0_8 a0_0 a0_1 a0_2 a0_3 a0_4 a0_5 a0_6 a0_7 a0_0 (⟨#[]⟩ : ByteArray) 0 false 0 (⟨#[]⟩ : ByteArray) 0 (⟨#[]⟩ : ByteArray)) else (some false)) else (if a0_0 = 6 then (An.j0 k (a0_0 == 6) a0_0 a0_1 a0_2 a0_3 a0_4 a0_5 a0_6 a0_7 l0_8 a0_0 a0_1 a0_2 a0_3 a0_4 a0_5 a0_6 a0_7 a0_0 (⟨#[]⟩ : ByteArray) 0 false 0 (⟨#[]⟩ : ByteArray) 0 (⟨#[]⟩ : ByteArray)) else (An.j0 k (a0_0 == 7) a0_0 a0_1 a0_2 a0_3 a0_4 a0_5 a0_6 a0_7 l0_8 a0_0 a0_1 a0_2 a0_3 a0_4 a0_5 a0_6 a0_7 a0_0 (⟨#[]⟩ : ByteArray) 0 false 0 (⟨#[]⟩ : ByteArray) 0 (⟨#[]⟩ : ByteArray)))))))
end
theorem An.mono_l : ∀ k, (∀ y0 y1 y2 y3 y4 y5 y6 y7 y8, LeO (An.f k y0 y1 y2 y3 y4 y5 y6 y7 y8) (An.f (k + 1) y0 y1 y2 y3 y4 y5 y6 y7 y8)) ∧ (∀ y0 y1 y2 y3 y4 y5 y6 y7 y8 y9 y10 y11 y12 y13 y14 y15 y16 y17 y18 y19 y20 y21 y22 y23 y24, LeO (An.j1 k y0 y1 y2 y3 y4 y5 y6 y7 y8 y9 y10 y11 y12 y13 y14 y15 y16 y17 y18 y19 y20 y21 y22 y23 y24) (An.j1 (k + 1) y0 y1 y2 y3 y4 y5 y6 y7 y8 y9 y10 y11 y12 y13 y14 y15 y16 y17 y18 y19 y20 y21 y22 y23 y24)) ∧ (∀ y0 y1 y2 y3 y4 y5 y6 y7 y8 y9, LeO (An.j2 k y0 y1 y2 y3 y4 y5 y6 y7 y8 y9) (An.j2 (k + 1) y0 y1 y2 y3 y4 y5 y6 y7 y8 y9)) ∧ (∀ y0 y1 y2 y3 y4 y5 y6 y7 y8 y9, LeO (An.l0 k y0 y1 y2 y3 y4 y5 y6 y7 y8 y9) (An.l0 (k + 1) y0 y1 y2 y3 y4 y5 y6 y7 y8 y9)) ∧ (∀ y0 y1 y2 y3 y4 y5 y6 y7 y8 y9 y10 y11 y12 y13 y14 y15 y16 y17 y18 y19 y20 y21 y22 y23 y24 y25, LeO (An.j0 k y0 y1 y2 y3 y4 y5 y6 y7 y8 y9 y10 y11 y12 y13 y14 y15 y16 y17 y18 y19 y20 y21 y22 y23 y24 y25) (An.j0 (k + 1) y0 y1 y2 y3 y4 y5 y6 y7 y8 y9 y10 y11 y12 y13 y14 y15 y16 y17 y18 y19 y20 y21 y22 y23 y24 y25))
 | 0 => ⟨fun _ _ _ _ _ _ _ _ _ r h => by simp [An.f] at h, fun _ _ _ _ _ _ _ _ _ _ _ _ _ _ _ _ _ _ _ _ _ _ _ _ _ r h => by simp [An.j1] at h, fun _ _ _ _ _ _ _ _ _ _ r h => by simp [An.j2] at h, fun _ _ _ _ _ _ _ _ _ _ r h => by simp [An.l0] at h, fun _ _ _ _ _ _ _ _ _ _ _ _ _ _ _ _ _ _ _ _ _ _ _ _ _ _ r h => by simp [An.j0] at h⟩
 | k + 1 => by
  obtain ⟨ih0, ih1, ih2, ih3, ih4⟩ := An.mono_l k
  refine ⟨?_, ?_, ?_, ?_, ?_⟩
  focus intro y0 y1 y2 y3 y4 y5 y6 y7 y8;unfold An.f
  rotate_left
  focus intro y0 y1 y2 y3 y4 y5 y6 y7 y8 y9 y10 y11 y12 y13 y14 y15 y16 y17 y18 y19 y20 y21 y22 y23 y24;unfold An.j1
  rotate_left
  focus intro y0 y1 y2 y3 y4 y5 y6 y7 y8 y9;unfold An.j2
  rotate_left
  focus intro y0 y1 y2 y3 y4 y5 y6 y7 y8 y9;unfold An.l0
  rotate_left
  focus intro y0 y1 y2 y3 y4 y5 y6 y7 y8 y9 y10 y11 y12 y13 y14 y15 y16 y17 y18 y19 y20 y21 y22 y23 y24 y25;unfold An.j0
  rotate_left
  all_goals repeat' first|(with_reducible first|exact ih0 _ _ _ _ _ _ _ _ _|exact ih1 _ _ _ _ _ _ _ _ _ _ _ _ _ _ _ _ _ _ _ _ _ _ _ _ _|exact ih2 _ _ _ _ _ _ _ _ _ _|exact ih3 _ _ _ _ _ _ _ _ _ _|exact ih4 _ _ _ _ _ _ _ _ _ _ _ _ _ _ _ _ _ _ _ _ _ _ _ _ _ _|exact Bk.mono _ _ _ _ _ _|exact Aq.mono _ _|exact LeO.refl _|exact LeO.none _|refine LeO.ite ?_ ?_|refine LeO.bind ?_ fun _=>?_)|exact ih0 _ _ _ _ _ _ _ _ _|exact ih1 _ _ _ _ _ _ _ _ _ _ _ _ _ _ _ _ _ _ _ _ _ _ _ _ _|exact ih2 _ _ _ _ _ _ _ _ _ _|exact ih3 _ _ _ _ _ _ _ _ _ _|exact ih4 _ _ _ _ _ _ _ _ _ _ _ _ _ _ _ _ _ _ _ _ _ _ _ _ _ _|exact Bk.mono _ _ _ _ _ _|exact Aq.mono _ _|exact LeO.none _|refine LeO.ite ?_ ?_|refine LeO.bind ?_ fun _=>?_
theorem An.mono : ∀ a0 a1 a2 a3 a4 a5 a6 a7 a8 k, LeO (An.f k a0 a1 a2 a3 a4 a5 a6 a7 a8) (An.f (k + 1) a0 a1 a2 a3 a4 a5 a6 a7 a8) := by
 intro a0 a1 a2 a3 a4 a5 a6 a7 a8 k
 obtain ⟨ih0, ih1, ih2, ih3, ih4⟩ := An.mono_l k
 exact ih0 a0 a1 a2 a3 a4 a5 a6 a7 a8
def OneB (w W : World) (cs ds es : Array Value) : Prop := Below w.heap.size w W ∧ W.heap[w.heap.size]? = some (.cells cs 27 (0, 0)) ∧ W.heap[w.heap.size + 1]? = some (.cells ds 27 (0, 0)) ∧ W.heap[w.heap.size + 1 + 1]? = some (.cells es 27 (0, 0))
theorem OneB.go {w W W' : World} {cs ds es : Array Value} (h : OneB w W cs ds es) (hb : Below W.heap.size W W') : OneB w W' cs ds es := ⟨Cp h.1 hb, Ct h.2.1 hb, Ct h.2.2.1 hb, Ct h.2.2.2 hb⟩
theorem OneB.put {w W : World} {cs ds : Array Value} {x0 x1 x2 x3 x4 x5 x6 x7 x8 u0 u1 u2 u3 u4 u5 u6 u7 u8 : Value} (h : OneB w W cs ds #[x0, x1, x2, x3, x4, x5, x6, x7, x8]) : OneB w (((((((((W.setCell ⟨w.heap.size + 1 + 1, 0, none⟩ u0).setCell ⟨w.heap.size + 1 + 1, 1, none⟩ u1).setCell ⟨w.heap.size + 1 + 1, 2, none⟩ u2).setCell ⟨w.heap.size + 1 + 1, 3, none⟩ u3).setCell ⟨w.heap.size + 1 + 1, 4, none⟩ u4).setCell ⟨w.heap.size + 1 + 1, 5, none⟩ u5).setCell ⟨w.heap.size + 1 + 1, 6, none⟩ u6).setCell ⟨w.heap.size + 1 + 1, 7, none⟩ u7).setCell ⟨w.heap.size + 1 + 1, 8, none⟩ u8) cs ds #[u0, u1, u2, u3, u4, u5, u6, u7, u8] := by
 have e0 : w.heap.size ≠ w.heap.size + 1 + 1 := by omega
 have e1 : w.heap.size + 1 ≠ w.heap.size + 1 + 1 := by omega
 have g : w.heap.size ≤ w.heap.size + 1 + 1 := by omega
 exact ⟨Ao (Ao (Ao (Ao (Ao (Ao (Ao (Ao (Ao h.1 g) g) g) g) g) g) g) g) g, Bv (Bv (Bv (Bv (Bv (Bv (Bv (Bv (Bv h.2.1 e0 _) e0 _) e0 _) e0 _) e0 _) e0 _) e0 _) e0 _) e0 _, Bv (Bv (Bv (Bv (Bv (Bv (Bv (Bv (Bv h.2.2.1 e1 _) e1 _) e1 _) e1 _) e1 _) e1 _) e1 _) e1 _) e1 _, blk_all9_ h.2.2.2⟩
theorem OneB.first (w : World) (cs ds es : Array Value) : OneB w (((w.alloc (.cells cs 27)).alloc (.cells ds 27)).alloc (.cells es 27)) cs ds es := by
 have h2 := heap_alloc_new (w.alloc (.cells cs 27)) (.cells ds 27)
 have h3 := heap_alloc_new ((w.alloc (.cells cs 27)).alloc (.cells ds 27)) (.cells es 27)
 simp only [World.size_alloc] at h2 h3
 exact ⟨Ak (Ak (Ak (Below.refl _ _) _) _) _, Ae (Ae (heap_alloc_new w _) _) _, Ae h2 _, h3⟩
theorem OneB.drew {w W : World} {cs ds es : Array Value} (h : OneB w W cs ds es) : OneB w W.drew cs ds es := ⟨Aj h.1, Af h.2.1, Af h.2.2.1, Af h.2.2.2⟩
theorem cut1_ {P : Program} {c : Code} {Q : Exit → Act → World → Prop} {a : Act} {E : World} (F : World → Prop) (hF : F E) (h : ∀ w1, F w1 → c.wp P Q a w1) : c.wp P Q a E := h E hF
theorem keep1_ {W W' : World} (hb : Below W.heap.size W W') {a : Addr} {v : Value} (h : W.cell? a = some v) : W'.cell? a = some v := (hb.cell (World.block_lt_of_cell? _ _ h)).trans h
def one31.T : Bool × List (List Nat × List Nat) := (true, [([], []), ([0], [0]), ([], []), ([1, 2], [1, 2]), ([3], [3]), ([4], [4]), ([5], [5]), ([6, 5], [6]), ([7], [7]), ([8, 7], [7, 8]), ([9, 7], [7, 9]), ([10, 7, 7], [7, 10]), ([11], [11]), ([12, 11], [11, 12]), ([11], [11]), ([13, 14, 11], [11, 13, 14]), ([15, 11], [11, 15]), ([16, 11], [11, 16]), ([11], [11]), ([18, 11], [11, 18]), ([17, 19, 11], [11, 17, 19]), ([11, 20, 7], [7, 11, 20]), ([7, 21], [7, 21])])
def one31.B : List Nat := [0, 1, 0, 7, 15, 31, 63, 127, 255, 511, 1023, 2047, 4095, 8191, 4095, 32767, 65535, 131071, 4095, 266239, 1048575, 2097151, 4194303]
theorem one31.tab : rtab .any (opsOf Try.f78 31) = one31.T := by kernel_rfl
theorem one31.bits : waitsOk one31.T.2 one31.B = true := by kernel_rfl
theorem An.calls (k : Nat) : ∀ (a0_0 : Int) (a0_1 : ByteArray) (a0_2 : Int) (a0_3 : Bool) (a0_4 : Int) (a0_5 : ByteArray) (a0_6 : Int) (a0_7 : ByteArray) (A0_8 : Option Addr) (c0_8 : Nat) (l0_8 : List (S27)) (r : Bool) (w : World) (hr0_8 : Kd.C k27 w A0_8 l0_8.length l0_8) (hc0_8 : l0_8.length ≤ c0_8) (h : An.f k a0_0 a0_1 a0_2 a0_3 a0_4 a0_5 a0_6 a0_7 l0_8 = some r),
  Calls Try.prog 78 #[.agg #[.int .i64 a0_0, .string a0_1, .int .i64 a0_2, .bool a0_3, .int .i64 a0_4, .string a0_5, .int .i64 a0_6, .string a0_7, .slice A0_8 l0_8.length c0_8]] w fun e w' => e = .returned (.bool r) ∧ Below w.heap.size w w' := by
 induction k using Nat.strongRecOn with
 | _ k ih =>
 intro a0_0 a0_1 a0_2 a0_3 a0_4 a0_5 a0_6 a0_7 A0_8 c0_8 l0_8 r w hr0_8 hc0_8 h
 cases k with
 | zero => exact absurd h (by simp [An.f])
 | succ k =>
 simp only [An.f] at h
 have hu27 := Try.underlying27
 have hu24 := Try.underlying24
 have HR := Aa.mk hr0_8
 have HC := Aa.mk hc0_8
 have IH := Aa.mk ih
 have HH := Aa.mk h
 clear hr0_8 hc0_8 ih h
 go_enter Try.func78, Try.ntmps78
 go_upto_block 0 with fail
 refine cut1_ (fun wX => OneB w wX #[.int .i64 a0_0, .string a0_1, .int .i64 a0_2, .bool a0_3, .int .i64 a0_4, .string a0_5, .int .i64 a0_6, .string a0_7, .slice A0_8 l0_8.length c0_8] #[.int .i64 a0_0, .string a0_1, .int .i64 a0_2, .bool a0_3, .int .i64 a0_4, .string a0_5, .int .i64 a0_6, .string a0_7, .slice none 0 0] #[.int .i64 a0_0, .string (⟨#[]⟩ : ByteArray), .int .i64 0, .bool false, .int .i64 0, .string (⟨#[]⟩ : ByteArray), .int .i64 0, .string (⟨#[]⟩ : ByteArray), .slice none 0 0]) (OneB.first _ _ _ _) ?_
 rintro w1 h1
 have S1 := Aa.mk h1
 clear h1
 go_cut [] (fun wx => ∃ (kq : Nat) (y0 : Int) (y1 : ByteArray) (y2 : Int) (y3 : Bool) (y4 : Int) (y5 : ByteArray) (y6 : Int) (y7 : ByteArray), Aa (An.j1 kq a0_0 a0_1 a0_2 a0_3 a0_4 a0_5 a0_6 a0_7 l0_8 a0_0 a0_1 a0_2 a0_3 a0_4 a0_5 a0_6 a0_7 y0 y1 y2 y3 y4 y5 y6 y7 = some r) ∧ Aa (kq ≤ k) ∧ Aa (OneB w wx #[.int .i64 a0_0, .string a0_1, .int .i64 a0_2, .bool a0_3, .int .i64 a0_4, .string a0_5, .int .i64 a0_6, .string a0_7, .slice A0_8 l0_8.length c0_8] #[.int .i64 a0_0, .string a0_1, .int .i64 a0_2, .bool a0_3, .int .i64 a0_4, .string a0_5, .int .i64 a0_6, .string a0_7, .slice none 0 0] #[.int .i64 y0, .string y1, .int .i64 y2, .bool y3, .int .i64 y4, .string y5, .int .i64 y6, .string y7, .slice none 0 0]))
 case first =>(
 have h := HH.out
 clear HH
 by_cases o1 : a0_0 = 1
 ·(
 rw [if_pos o1] at h
 have o1b : (a0_0 == 1) = true := beq_iff_eq.2 o1
 clear o1
 have H := Aa.mk h
 clear h
 go_wp2
 go_meet
 case rel => exact ⟨k, _, _, _, _, _, _, _, _, H, ⟨Nat.le_refl _⟩, S1⟩)
 rw [if_neg o1] at h
 have o1b : (a0_0 == 1) = false := beq_eq_false_iff_ne.2 o1
 by_cases o2 : a0_0 = 2
 ·(
 rw [if_pos o2] at h
 have o2b : (a0_0 == 2) = true := beq_iff_eq.2 o2
 clear o1 o2
 obtain ⟨t, hN, h⟩ := Dn h
 have HN := Aa.mk hN
 have H := Aa.mk h
 clear h hN
 obtain ⟨hd0, hd1, hd2, hd3, hd4, hd5, hd6, hd7, hd8⟩ := cz9_ S1.out.2.1
 obtain ⟨hc0, hc1, hc2, hc3, hc4, hc5, hc6, hc7, hc8⟩ := cz9_ S1.out.2.2.2
 obtain ⟨hf0, hf1, hf2, hf3, hf4, hf5, hf6, hf7, hf8⟩ := fz9_ S1.out.2.2.2
 go_upto_region 9 with fail
 refine cut1_ (fun wX => OneB w wX #[.int .i64 a0_0, .string a0_1, .int .i64 a0_2, .bool a0_3, .int .i64 a0_4, .string a0_5, .int .i64 a0_6, .string a0_7, .slice A0_8 l0_8.length c0_8] #[.int .i64 a0_0, .string a0_1, .int .i64 a0_2, .bool a0_3, .int .i64 a0_4, .string a0_5, .int .i64 a0_6, .string a0_7, .slice none 0 0] #[.int .i64 a0_0, .string a0_1, .int .i64 a0_2, .bool a0_3, .int .i64 a0_4, .string a0_5, .int .i64 a0_6, .string (⟨#[]⟩ : ByteArray), .slice none 0 0]) S1.out.put ?_
 rintro w2 h2
 have S2 := Aa.mk h2
 clear h2 S1
 clear hd0 hd1 hd2 hd3 hd4 hd5 hd6 hd7 hd8
 clear hc0 hc1 hc2 hc3 hc4 hc5 hc6 hc7 hc8 hf0 hf1 hf2 hf3 hf4 hf5 hf6 hf7 hf8
 obtain ⟨hd0, hd1, hd2, hd3, hd4, hd5, hd6, hd7, hd8⟩ := cz9_ S2.out.2.1
 go_wp2_with fail
 refine (Aq.calls k a0_1 t w2 HN.out).mono ?_
 rintro e w3 ⟨rfl, hb⟩
 have S3 := Aa.mk (S2.out.go hb)
 clear hb S2 HN
 clear hd0 hd1 hd2 hd3 hd4 hd5 hd6 hd7 hd8
 have h := H.out
 clear H
 cases t with
 | false =>(
 rw [if_neg (by decide)] at h
 obtain rfl := Dp h
 obtain ⟨hd0, hd1, hd2, hd3, hd4, hd5, hd6, hd7, hd8⟩ := cz9_ S3.out.2.1
 go_wp2
 go_ret
 exact ⟨rfl, S3.out.1⟩)
 | true =>(
 rw [if_pos rfl] at h
 obtain ⟨hd0, hd1, hd2, hd3, hd4, hd5, hd6, hd7, hd8⟩ := cz9_ S3.out.2.1
 by_cases c1 : a0_2 < 1
 ·(
 rw [if_pos c1] at h
 obtain rfl := Dp h
 have c1b : decide (a0_2 < 1) = true := decide_eq_true c1
 clear c1
 go_wp2
 go_ret
 exact ⟨rfl, S3.out.1⟩)
 rw [if_neg c1] at h
 have c1b : decide (a0_2 < 1) = false := decide_eq_false c1
 by_cases c2 : a0_2 > 6
 ·(
 rw [if_pos c2] at h
 obtain rfl := Dp h
 have c2b : decide (6 < a0_2) = true := decide_eq_true c2
 clear c1 c2
 go_wp2
 go_ret
 exact ⟨rfl, S3.out.1⟩)
 rw [if_neg c2] at h
 have c2b : decide (6 < a0_2) = false := decide_eq_false c2
 clear c1 c2
 obtain ⟨t, hM, h⟩ := Dn h
 have HM := Aa.mk hM
 have H := Aa.mk h
 clear h hM
 go_wp2_with fail
 refine (Bk.calls k a0_6 false a0_3 a0_4 a0_5 t w3 HM.out).mono ?_
 rintro e w4 ⟨rfl, hb⟩
 have S4 := Aa.mk (S3.out.go hb)
 clear hb S3 HM
 clear hd0 hd1 hd2 hd3 hd4 hd5 hd6 hd7 hd8
 have h := H.out
 clear H
 cases t with
 | false =>(
 rw [if_neg (by decide)] at h
 obtain rfl := Dp h
 go_wp2
 go_ret
 exact ⟨rfl, S4.out.1⟩)
 | true =>(
 rw [if_pos rfl] at h
 have H := Aa.mk h
 clear h
 go_wp2
 go_meet
 case rel => exact ⟨k, _, _, _, _, _, _, _, _, H, ⟨Nat.le_refl _⟩, S4⟩)))
 rw [if_neg o2] at h
 have o2b : (a0_0 == 2) = false := beq_eq_false_iff_ne.2 o2
 by_cases o3 : a0_0 = 3
 ·(
 rw [if_pos o3] at h
 have o3b : (a0_0 == 3) = true := beq_iff_eq.2 o3
 clear o1 o2 o3
 obtain ⟨t, hN, h⟩ := Dn h
 have HN := Aa.mk hN
 have H := Aa.mk h
 clear h hN
 obtain ⟨hd0, hd1, hd2, hd3, hd4, hd5, hd6, hd7, hd8⟩ := cz9_ S1.out.2.1
 obtain ⟨hc0, hc1, hc2, hc3, hc4, hc5, hc6, hc7, hc8⟩ := cz9_ S1.out.2.2.2
 obtain ⟨hf0, hf1, hf2, hf3, hf4, hf5, hf6, hf7, hf8⟩ := fz9_ S1.out.2.2.2
 go_upto_region 13 with fail
 refine cut1_ (fun wX => OneB w wX #[.int .i64 a0_0, .string a0_1, .int .i64 a0_2, .bool a0_3, .int .i64 a0_4, .string a0_5, .int .i64 a0_6, .string a0_7, .slice A0_8 l0_8.length c0_8] #[.int .i64 a0_0, .string a0_1, .int .i64 a0_2, .bool a0_3, .int .i64 a0_4, .string a0_5, .int .i64 a0_6, .string a0_7, .slice none 0 0] #[.int .i64 a0_0, .string a0_1, .int .i64 0, .bool false, .int .i64 0, .string (⟨#[]⟩ : ByteArray), .int .i64 0, .string (⟨#[]⟩ : ByteArray), .slice none 0 0]) S1.out.put ?_
 rintro w2 h2
 have S2 := Aa.mk h2
 clear h2 S1
 clear hd0 hd1 hd2 hd3 hd4 hd5 hd6 hd7 hd8
 clear hc0 hc1 hc2 hc3 hc4 hc5 hc6 hc7 hc8 hf0 hf1 hf2 hf3 hf4 hf5 hf6 hf7 hf8
 obtain ⟨hd0, hd1, hd2, hd3, hd4, hd5, hd6, hd7, hd8⟩ := cz9_ S2.out.2.1
 go_wp2_with fail
 refine (Aq.calls k a0_1 t w2 HN.out).mono ?_
 rintro e w3 ⟨rfl, hb⟩
 have S3 := Aa.mk (S2.out.go hb)
 clear hb S2 HN
 clear hd0 hd1 hd2 hd3 hd4 hd5 hd6 hd7 hd8
 have h := H.out
 clear H
 cases t with
 | false =>(
 rw [if_neg (by decide)] at h
 obtain rfl := Dp h
 obtain ⟨hd0, hd1, hd2, hd3, hd4, hd5, hd6, hd7, hd8⟩ := cz9_ S3.out.2.1
 go_wp2
 go_ret
 exact ⟨rfl, S3.out.1⟩)
 | true =>(
 rw [if_pos rfl] at h
 obtain ⟨hd0, hd1, hd2, hd3, hd4, hd5, hd6, hd7, hd8⟩ := cz9_ S3.out.2.1
 have H := Aa.mk h
 clear h
 go_wp2
 go_meet
 case rel => exact ⟨k, _, _, _, _, _, _, _, _, H, ⟨Nat.le_refl _⟩, S3⟩))
 rw [if_neg o3] at h
 have o3b : (a0_0 == 3) = false := beq_eq_false_iff_ne.2 o3
 by_cases o4 : a0_0 = 4
 ·(
 rw [if_pos o4] at h
 have o4b : (a0_0 == 4) = true := beq_iff_eq.2 o4
 clear o1 o2 o3 o4
 obtain ⟨t, hN, h⟩ := Dn h
 have HN := Aa.mk hN
 have H := Aa.mk h
 clear h hN
 obtain ⟨hd0, hd1, hd2, hd3, hd4, hd5, hd6, hd7, hd8⟩ := cz9_ S1.out.2.1
 obtain ⟨hc0, hc1, hc2, hc3, hc4, hc5, hc6, hc7, hc8⟩ := cz9_ S1.out.2.2.2
 obtain ⟨hf0, hf1, hf2, hf3, hf4, hf5, hf6, hf7, hf8⟩ := fz9_ S1.out.2.2.2
 go_upto_region 17 with fail
 refine cut1_ (fun wX => OneB w wX #[.int .i64 a0_0, .string a0_1, .int .i64 a0_2, .bool a0_3, .int .i64 a0_4, .string a0_5, .int .i64 a0_6, .string a0_7, .slice A0_8 l0_8.length c0_8] #[.int .i64 a0_0, .string a0_1, .int .i64 a0_2, .bool a0_3, .int .i64 a0_4, .string a0_5, .int .i64 a0_6, .string a0_7, .slice none 0 0] #[.int .i64 a0_0, .string a0_1, .int .i64 0, .bool false, .int .i64 0, .string (⟨#[]⟩ : ByteArray), .int .i64 0, .string a0_7, .slice none 0 0]) S1.out.put ?_
 rintro w2 h2
 have S2 := Aa.mk h2
 clear h2 S1
 clear hd0 hd1 hd2 hd3 hd4 hd5 hd6 hd7 hd8
 clear hc0 hc1 hc2 hc3 hc4 hc5 hc6 hc7 hc8 hf0 hf1 hf2 hf3 hf4 hf5 hf6 hf7 hf8
 obtain ⟨hd0, hd1, hd2, hd3, hd4, hd5, hd6, hd7, hd8⟩ := cz9_ S2.out.2.1
 go_wp2_with fail
 refine (Aq.calls k a0_1 t w2 HN.out).mono ?_
 rintro e w3 ⟨rfl, hb⟩
 have S3 := Aa.mk (S2.out.go hb)
 clear hb S2 HN
 clear hd0 hd1 hd2 hd3 hd4 hd5 hd6 hd7 hd8
 have h := H.out
 clear H
 cases t with
 | false =>(
 rw [if_neg (by decide)] at h
 obtain rfl := Dp h
 obtain ⟨hd0, hd1, hd2, hd3, hd4, hd5, hd6, hd7, hd8⟩ := cz9_ S3.out.2.1
 go_wp2
 go_ret
 exact ⟨rfl, S3.out.1⟩)
 | true =>(
 rw [if_pos rfl] at h
 obtain ⟨hd0, hd1, hd2, hd3, hd4, hd5, hd6, hd7, hd8⟩ := cz9_ S3.out.2.1
 by_cases c1 : (a0_7.size : Int) > 40
 ·(
 rw [if_pos c1] at h
 obtain rfl := Dp h
 have c1b : decide (40 < (a0_7.size : Int)) = true := decide_eq_true c1
 have c1c : decide (40 < a0_7.size) = true := decide_eq_true (by omega)
 clear c1
 go_wp2
 go_ret
 exact ⟨rfl, S3.out.1⟩)
 rw [if_neg c1] at h
 have c1b : decide (40 < (a0_7.size : Int)) = false := decide_eq_false c1
 have c1c : decide (40 < a0_7.size) = false := decide_eq_false (by omega)
 clear c1
 have H := Aa.mk h
 clear h
 go_wp2
 go_meet
 case rel => exact ⟨k, _, _, _, _, _, _, _, _, H, ⟨Nat.le_refl _⟩, S3⟩))
 rw [if_neg o4] at h
 have o4b : (a0_0 == 4) = false := beq_eq_false_iff_ne.2 o4
 by_cases o5 : a0_0 = 5
 ·(
 rw [if_pos o5] at h
 have o5b : (a0_0 == 5) = true := beq_iff_eq.2 o5
 clear o1 o2 o3 o4 o5
 obtain ⟨hd0, hd1, hd2, hd3, hd4, hd5, hd6, hd7, hd8⟩ := cz9_ S1.out.2.1
 by_cases c1 : (l0_8.length : Int) = 1
 ·(
 rw [if_pos c1] at h
 have c1b : ((l0_8.length : Int) == 1) = true := beq_iff_eq.2 c1
 have c1c : ((l0_8.length : Int) != 1) = false := by simp [c1]
 clear c1
 have H := Aa.mk h
 clear h
 go_wp2
 go_meet
 case rel => exact ⟨k, _, _, _, _, _, _, _, _, H, ⟨Nat.le_refl _⟩, S1⟩)
 rw [if_neg c1] at h
 obtain rfl := Dp h
 have c1b : ((l0_8.length : Int) == 1) = false := beq_eq_false_iff_ne.2 c1
 have c1c : ((l0_8.length : Int) != 1) = true := by simp [c1]
 clear c1
 go_wp2
 go_ret
 exact ⟨rfl, S1.out.1⟩)
 rw [if_neg o5] at h
 have o5b : (a0_0 == 5) = false := beq_eq_false_iff_ne.2 o5
 by_cases o6 : a0_0 = 6
 ·(
 rw [if_pos o6] at h
 have c0b : (a0_0 == 6) = true := beq_iff_eq.2 o6
 clear o1 o2 o3 o4 o5 o6
 cases k with
 | zero => exact absurd h (by simp [An.j0])
 | succ k1 =>(
 simp only [An.j0] at h
 rw [if_pos c0b] at h
 by_cases c1 : (l0_8.length : Int) < 2
 ·(
 rw [if_pos c1] at h
 obtain rfl := Dp h
 have c1b : decide ((l0_8.length : Int) < 2) = true := decide_eq_true c1
 have c1c : decide (l0_8.length < 2) = true := decide_eq_true (by omega)
 clear c1
 obtain ⟨hd0, hd1, hd2, hd3, hd4, hd5, hd6, hd7, hd8⟩ := cz9_ S1.out.2.1
 go_wp2
 go_ret
 exact ⟨rfl, S1.out.1⟩)
 rw [if_neg c1] at h
 have c1b : decide ((l0_8.length : Int) < 2) = false := decide_eq_false c1
 have c1c : decide (l0_8.length < 2) = false := decide_eq_false (by omega)
 clear c1
 obtain ⟨hd0, hd1, hd2, hd3, hd4, hd5, hd6, hd7, hd8⟩ := cz9_ S1.out.2.1
 have H := Aa.mk h
 clear h
 go_wp2
 go_meet
 case rel => exact ⟨k1, _, _, _, _, _, _, _, _, H, ⟨Nat.le_succ _⟩, S1⟩))
 rw [if_neg o6] at h
 have o6b : (a0_0 == 6) = false := beq_eq_false_iff_ne.2 o6
 by_cases o7 : a0_0 = 7
 ·(
 have c0b : (a0_0 == 7) = true := beq_iff_eq.2 o7
 clear o1 o2 o3 o4 o5 o6 o7
 cases k with
 | zero => exact absurd h (by simp [An.j0])
 | succ k1 =>(
 simp only [An.j0] at h
 rw [if_pos c0b] at h
 by_cases c1 : (l0_8.length : Int) < 2
 ·(
 rw [if_pos c1] at h
 obtain rfl := Dp h
 have c1b : decide ((l0_8.length : Int) < 2) = true := decide_eq_true c1
 have c1c : decide (l0_8.length < 2) = true := decide_eq_true (by omega)
 clear c1
 obtain ⟨hd0, hd1, hd2, hd3, hd4, hd5, hd6, hd7, hd8⟩ := cz9_ S1.out.2.1
 go_wp2
 go_ret
 exact ⟨rfl, S1.out.1⟩)
 rw [if_neg c1] at h
 have c1b : decide ((l0_8.length : Int) < 2) = false := decide_eq_false c1
 have c1c : decide (l0_8.length < 2) = false := decide_eq_false (by omega)
 clear c1
 obtain ⟨hd0, hd1, hd2, hd3, hd4, hd5, hd6, hd7, hd8⟩ := cz9_ S1.out.2.1
 have H := Aa.mk h
 clear h
 go_wp2
 go_meet
 case rel => exact ⟨k1, _, _, _, _, _, _, _, _, H, ⟨Nat.le_succ _⟩, S1⟩))
 have c0b : (a0_0 == 7) = false := beq_eq_false_iff_ne.2 o7
 clear o1 o2 o3 o4 o5 o6 o7
 cases k with
 | zero => exact absurd h (by simp [An.j0])
 | succ k1 =>(
 simp only [An.j0] at h
 rw [if_neg (by rw [c0b]; decide)] at h
 obtain rfl := Dp h
 go_wp2
 go_ret
 exact ⟨rfl, S1.out.1⟩))
 case rest =>(
 clear HH
 obtain ⟨kq, y0, y1, y2, y3, y4, y5, y6, y7, HA, HK, S⟩ := hcut
 cases kq with
 | zero => exact absurd HA.out (by simp [An.j1])
 | succ kj =>
 have h := HA.out
 clear HA S1
 simp only [An.j1] at h
 have HH := Aa.mk h
 clear h
 go_upto_region 26 with fail
 go_cut [107] (fun v107 wx => ∃ (b : Bool), v107 = .bool b ∧ Aa (An.j2 kj b a0_0 a0_1 a0_2 a0_3 a0_4 a0_5 a0_6 a0_7 l0_8 = some r) ∧ Aa (OneB w wx #[.int .i64 a0_0, .string a0_1, .int .i64 a0_2, .bool a0_3, .int .i64 a0_4, .string a0_5, .int .i64 a0_6, .string a0_7, .slice A0_8 l0_8.length c0_8] #[.int .i64 a0_0, .string a0_1, .int .i64 a0_2, .bool a0_3, .int .i64 a0_4, .string a0_5, .int .i64 a0_6, .string a0_7, .slice none 0 0] #[.int .i64 y0, .string y1, .int .i64 y2, .bool y3, .int .i64 y4, .string y5, .int .i64 y6, .string y7, .slice none 0 0]))
 case first =>(
 have h := HH.out
 clear HH
 by_cases c1 : a0_0 < 5
 ·(
 rw [if_pos c1] at h
 have c1b : decide (a0_0 < 5) = true := decide_eq_true c1
 clear c1
 by_cases c2 : (l0_8.length : Int) > 0
 ·(
 rw [if_pos c2] at h
 have c2b : decide (0 < (l0_8.length : Int)) = true := decide_eq_true c2
 have c2c : decide (0 < l0_8.length) = true := decide_eq_true (by omega)
 clear c2
 have H := Aa.mk h
 clear h
 obtain ⟨hd0, hd1, hd2, hd3, hd4, hd5, hd6, hd7, hd8⟩ := cz9_ S.out.2.1
 go_wp2
 go_meet
 case rel => exact ⟨_, rfl, H, S⟩)
 rw [if_neg c2] at h
 have c2b : decide (0 < (l0_8.length : Int)) = false := decide_eq_false c2
 have c2c : decide (0 < l0_8.length) = false := decide_eq_false (by omega)
 clear c2
 obtain ⟨t, hF, h⟩ := Dn h
 have HF := Aa.mk hF
 have H := Aa.mk h
 clear h hF
 obtain ⟨hd0, hd1, hd2, hd3, hd4, hd5, hd6, hd7, hd8⟩ := cz9_ S.out.2.1
 obtain ⟨he0, he1, he2, he3, he4, he5, he6, he7, he8⟩ := cz9_ S.out.2.2.1
 obtain ⟨hc0, hc1, hc2, hc3, hc4, hc5, hc6, hc7, hc8⟩ := cz9_ S.out.2.2.2
 go_wp2_with fail
 refine (Cb.calls a0_0 a0_1 a0_2 a0_3 a0_4 a0_5 a0_6 a0_7 none 0 [] y0 y1 y2 y3 y4 y5 y6 y7 none 0 [] t _ (Kd.C_nil _ _) (Nat.le_refl _) (Kd.C_nil _ _) (Nat.le_refl _) HF.out).mono ?_
 rintro e w3 ⟨rfl, hb⟩
 have S3 := Aa.mk (S.out.go hb)
 clear hb HF S he0 he1 he2 he3 he4 he5 he6 he7 he8 hc0 hc1 hc2 hc3 hc4 hc5 hc6 hc7 hc8
 clear hd0 hd1 hd2 hd3 hd4 hd5 hd6 hd7 hd8
 go_wp2_with fail
 go_meet
 case rel => exact ⟨_, rfl, H, S3⟩)
 rw [if_neg c1] at h
 have c1b : decide (a0_0 < 5) = false := decide_eq_false c1
 clear c1
 obtain ⟨t, hF, h⟩ := Dn h
 have HF := Aa.mk hF
 have H := Aa.mk h
 clear h hF
 obtain ⟨hd0, hd1, hd2, hd3, hd4, hd5, hd6, hd7, hd8⟩ := cz9_ S.out.2.1
 obtain ⟨he0, he1, he2, he3, he4, he5, he6, he7, he8⟩ := cz9_ S.out.2.2.1
 obtain ⟨hc0, hc1, hc2, hc3, hc4, hc5, hc6, hc7, hc8⟩ := cz9_ S.out.2.2.2
 go_wp2_with fail
 refine (Cb.calls a0_0 a0_1 a0_2 a0_3 a0_4 a0_5 a0_6 a0_7 none 0 [] y0 y1 y2 y3 y4 y5 y6 y7 none 0 [] t _ (Kd.C_nil _ _) (Nat.le_refl _) (Kd.C_nil _ _) (Nat.le_refl _) HF.out).mono ?_
 rintro e w3 ⟨rfl, hb⟩
 have S3 := Aa.mk (S.out.go hb)
 clear hb HF S he0 he1 he2 he3 he4 he5 he6 he7 he8 hc0 hc1 hc2 hc3 hc4 hc5 hc6 hc7 hc8
 clear hd0 hd1 hd2 hd3 hd4 hd5 hd6 hd7 hd8
 go_wp2_with fail
 go_meet
 case rel => exact ⟨_, rfl, H, S3⟩)
 case rest =>(
 clear HH S
 obtain ⟨b, rfl, HA, S⟩ := hcut
 cases kj with
 | zero => exact absurd HA.out (by simp [An.j2])
 | succ kj =>
 have h := HA.out
 clear HA
 simp only [An.j2] at h
 cases b with
 | true =>(
 rw [if_pos rfl] at h
 obtain rfl := Dp h
 go_wp2
 go_ret
 exact ⟨rfl, S.out.1⟩)
 | false =>(
 rw [if_neg (by decide)] at h
 have H := Aa.mk h
 clear h
 go_wp2
 go_loopg [5] kj (fun gk v5 wr => ∃ (x5 : Int), v5 = .int .i64 x5 ∧ Aa (An.l0 gk x5 a0_0 a0_1 a0_2 a0_3 a0_4 a0_5 a0_6 a0_7 l0_8 = some r) ∧ Aa (gk ≤ kj) ∧ Aa (OneB w wr #[.int .i64 a0_0, .string a0_1, .int .i64 a0_2, .bool a0_3, .int .i64 a0_4, .string a0_5, .int .i64 a0_6, .string a0_7, .slice A0_8 l0_8.length c0_8] #[.int .i64 a0_0, .string a0_1, .int .i64 a0_2, .bool a0_3, .int .i64 a0_4, .string a0_5, .int .i64 a0_6, .string a0_7, .slice none 0 0] #[.int .i64 y0, .string y1, .int .i64 y2, .bool y3, .int .i64 y4, .string y5, .int .i64 y6, .string y7, .slice none 0 0]))
 case atStart => exact ⟨0, rfl, H, ⟨Nat.le_refl _⟩, S⟩
 case round =>(
 obtain ⟨x5, rfl, HA, HK3, SW⟩ := hrel
 cases gk with
 | zero => exact absurd HA.out (by simp [An.l0])
 | succ k3 =>
 have h := HA.out
 clear HA S H
 simp only [An.l0] at h
 obtain ⟨hd0, hd1, hd2, hd3, hd4, hd5, hd6, hd7, hd8⟩ := cz9_ SW.out.2.1
 by_cases c1 : x5 < (l0_8.length : Int)
 ·(
 rw [if_pos c1] at h
 have c1b : decide (x5 < (l0_8.length : Int)) = true := decide_eq_true c1
 by_cases c2 : 0 ≤ x5
 ·(
 rw [if_pos c2] at h
 obtain ⟨ad, A8, c8, e, hx0, hx1, hx2, hx3, hx4, hx5, hx6, hx7, hx8, hl8, hi8⟩ := at_T27 (Kd.C_below HR.out SW.out.1) x5 c2 c1
 cases e
 have p1 : (0 ≤ x5) = True := eq_true c2
 have p2 : (x5 < (l0_8.length : Int)) = True := eq_true c1
 clear c1 c2
 generalize Al l0_8 x5 = x at h hx0 hx1 hx2 hx3 hx4 hx5 hx6 hx7 hx8 hl8 hi8
 obtain ⟨t, hT, h⟩ := Dn h
 have IC : Aa (∀ W, Below wr.heap.size wr W → Calls Try.prog 78 #[.agg #[.int .i64 x.f0, .string x.f1, .int .i64 x.f2, .bool x.f3.f0, .int .i64 x.f3.f1, .string x.f3.f2, .int .i64 x.f4, .string x.f5, .slice A8 x.f6.length c8]] W fun e w' => e = .returned (.bool t) ∧ Below W.heap.size W w') := ⟨fun W hW => IH.out k3 (by have := HK.out; have := HK3.out; omega) x.f0 x.f1 x.f2 x.f3.f0 x.f3.f1 x.f3.f2 x.f4 x.f5 A8 c8 x.f6 t W (Kd.C_below hi8 hW) hl8 hT⟩
 clear hi8 hl8 hT
 have H := Aa.mk h
 clear h
 go_wp2_with fail
 refine start_ (n := 23) (S := (fun W => Below wr.heap.size wr W ∧ OneB w W #[.int .i64 a0_0, .string a0_1, .int .i64 a0_2, .bool a0_3, .int .i64 a0_4, .string a0_5, .int .i64 a0_6, .string a0_7, .slice (some ad) l0_8.length c0_8] #[.int .i64 a0_0, .string a0_1, .int .i64 a0_2, .bool a0_3, .int .i64 a0_4, .string a0_5, .int .i64 a0_6, .string a0_7, .slice none 0 0] #[.int .i64 y0, .string y1, .int .i64 y2, .bool y3, .int .i64 y4, .string y5, .int .i64 y6, .string y7, .slice none 0 0] ∧ W.cell? ⟨w.heap.size, 0, none⟩ = some (.int .i64 a0_0) ∧ W.cell? ⟨w.heap.size, 8, none⟩ = some (.slice (some ad) l0_8.length c0_8) ∧ W.cell? (ad.add (x5.toNat * 9)) = some (.int .i64 x.f0) ∧ W.cell? ⟨(ad.add (x5.toNat * 9)).block, (ad.add (x5.toNat * 9)).off + 1, none⟩ = some (.string x.f1) ∧ W.cell? ⟨(ad.add (x5.toNat * 9)).block, (ad.add (x5.toNat * 9)).off + 2, none⟩ = some (.int .i64 x.f2) ∧ W.cell? ⟨(ad.add (x5.toNat * 9)).block, (ad.add (x5.toNat * 9)).off + 3, none⟩ = some (.bool x.f3.f0) ∧ W.cell? ⟨(ad.add (x5.toNat * 9)).block, (ad.add (x5.toNat * 9)).off + 4, none⟩ = some (.int .i64 x.f3.f1) ∧ W.cell? ⟨(ad.add (x5.toNat * 9)).block, (ad.add (x5.toNat * 9)).off + 5, none⟩ = some (.string x.f3.f2) ∧ W.cell? ⟨(ad.add (x5.toNat * 9)).block, (ad.add (x5.toNat * 9)).off + 6, none⟩ = some (.int .i64 x.f4) ∧ W.cell? ⟨(ad.add (x5.toNat * 9)).block, (ad.add (x5.toNat * 9)).off + 7, none⟩ = some (.string x.f5) ∧ W.cell? ⟨(ad.add (x5.toNat * 9)).block, (ad.add (x5.toNat * 9)).off + 8, none⟩ = some (.slice A8 x.f6.length c8))) (ds := []) #[false, false, false, false, false, false, false, false, false, false, false, false, false, false, false, false, false, false, false, false, false, false, false] (by kernel_rfl) rfl rfl ⟨Aj (Below.refl _ _), SW.out.drew, hd0, hd8, hx0, hx1, hx2, hx3, hx4, hx5, hx6, hx7, hx8⟩ (fun HS => ?_)
 refine with_tabW one31.tab one31.bits (fun HT_ HW_ => ?_)
 generalize wr.drew = w3 at HS ⊢
 refine pu_ 0 (some 115) (bl_ 23 1) ?_
 refine pu_ 2 (some 117) (bl_ 23 5) ?_
 refine ta_ 1 (some 116) (bl_ 23 7) HS ?_
 refine pu_ 3 (some 118) (bl_ 23 15) ?_
 refine ta_ 4 (some 119) (bl_ 23 31) HS ?_
 refine one_ (i := 5) (N := some 120) (bl_ 23 63) rfl rfl (one_of HT_.out (by kernel_rfl)) (by decide) (fun K hK => ?_)
 refine gs_ Try.func78 #[.agg #[.int .i64 x.f0, .string x.f1, .int .i64 x.f2, .bool x.f3.f0, .int .i64 x.f3.f1, .string x.f3.f2, .int .i64 x.f4, .string x.f5, .slice A8 x.f6.length c8]] ?_
 refine (IC.out _ HS.1).mono ?_
 rintro e w4 ⟨rfl, hb⟩
 refine ⟨_, rfl, ?_⟩
 obtain ⟨sb, s0, s1, s2, s3, s4, s5, s6, s7, s8, s9, s10, s11⟩ := HS
 refine hK.out _ _ ⟨Cp sb hb, s0.go hb, keep1_ hb s1, keep1_ hb s2, keep1_ hb s3, keep1_ hb s4, keep1_ hb s5, keep1_ hb s6, keep1_ hb s7, keep1_ hb s8, keep1_ hb s9, keep1_ hb s10, keep1_ hb s11⟩ (fun HS => ?_)
 clear hK K sb s0 s1 s2 s3 s4 s5 s6 s7 s8 s9 s10 s11 hb
 refine norm_ (a' := ?_) ?_ ?_; rotate_left
 ·show Act.put _ (some 120) _ = _; simp only [Act.put, List.setIfInBounds_toArray, List.set_cons_zero, List.set_cons_succ, i64_w, i32_w]; rfl
 refine pu_ 6 (some 121) (bl_ 23 127) ?_
 refine pu_ 7 (some 122) (bl_ 23 255) ?_
 clear IC
 cases t with
 | false =>(
 have h := H.out
 clear H
 rw [if_neg (by decide)] at h
 obtain rfl := Dp h
 refine pu_ 8 (some 123) (bl_ 23 511) ?_ (v := undef) (hy := Or.inr ⟨by rfl, rfl⟩)
 refine pu_ 9 (some 124) (bl_ 23 1023) ?_ (v := undef) (hy := Or.inr ⟨by rfl, rfl⟩)
 refine pu_ 10 (some 125) (bl_ 23 2047) ?_ (v := undef) (hy := Or.inr ⟨by rfl, rfl⟩)
 refine pu_ 11 (some 126) (bl_ 23 4095) ?_ (v := undef) (hy := Or.inr ⟨by rfl, rfl⟩)
 refine pu_ 12 (some 127) (bl_ 23 8191) ?_ (v := undef) (hy := Or.inr ⟨by rfl, rfl⟩)
 refine pu_ 14 (some 129) (bl_ 23 24575) ?_ (v := undef) (hy := Or.inr ⟨by rfl, rfl⟩)
 refine pu_ 18 (some 133) (bl_ 23 286719) ?_ (v := undef) (hy := Or.inr ⟨by rfl, rfl⟩)
 refine pu_ 13 (some 128) (bl_ 23 294911) ?_ (v := undef) (hy := Or.inr ⟨by rfl, rfl⟩)
 refine pu_ 15 (some 130) (bl_ 23 327679) ?_ (v := undef) (hy := Or.inr ⟨by rfl, rfl⟩)
 refine pu_ 16 (some 131) (bl_ 23 393215) ?_ (v := undef) (hy := Or.inr ⟨by rfl, rfl⟩)
 refine pu_ 17 (some 132) (bl_ 23 524287) ?_ (v := undef) (hy := Or.inr ⟨by rfl, rfl⟩)
 refine pu_ 19 (some 134) (bl_ 23 1048575) ?_ (v := undef) (hy := Or.inr ⟨by rfl, rfl⟩)
 refine pu_ 20 (some 135) (bl_ 23 2097151) ?_ (v := undef) (hy := Or.inr ⟨by rfl, rfl⟩)
 refine pu_ 21 (some 136) (bl_ 23 4194303) ?_ (v := undef) (hy := Or.inr ⟨by rfl, rfl⟩)
 refine pu_ 22 (some 137) (bl_ 23 8388607) ?_
 refine done_ (done_of HT_.out (by kernel_rfl)) ?_
 clear HT_ HW_
 have S4 := Aa.mk HS.2.1
 clear HS
 go_wp2
 go_ret
 exact ⟨rfl, S4.out.1⟩)
 | true =>(
 refine pu_ 8 (some 123) (bl_ 23 511) ?_
 refine ta_ 9 (some 124) (bl_ 23 1023) HS ?_
 refine pu_ 10 (some 125) (bl_ 23 2047) ?_
 refine pu_ 11 (some 126) (bl_ 23 4095) ?_
 have h := H.out
 clear H
 rw [if_pos rfl] at h
 by_cases c3 : a0_0 ≥ 6
 ·(
 rw [if_pos c3] at h
 have c3b : decide (6 ≤ a0_0) = true := decide_eq_true c3
 clear c3
 have H := Aa.mk h
 clear h
 rw [c3b]
 refine pu_ 12 (some 127) (bl_ 23 8191) ?_
 refine pu_ 14 (some 129) (bl_ 23 24575) ?_
 refine pu_ 18 (some 133) (bl_ 23 286719) ?_
 refine ta_ 13 (some 128) (bl_ 23 294911) HS ?_
 refine pu_ 15 (some 130) (bl_ 23 327679) ?_
 refine pu_ 16 (some 131) (bl_ 23 393215) ?_
 refine ta_ 17 (some 132) (bl_ 23 524287) HS ?_
 refine ta_ 19 (some 134) (bl_ 23 1048575) HS ?_
 refine pu_ 20 (some 135) (bl_ 23 2097151) ?_
 refine pu_ 21 (some 136) (bl_ 23 4194303) ?_
 refine pu_ 22 (some 137) (bl_ 23 8388607) ?_
 refine done_ (done_of HT_.out (by kernel_rfl)) ?_
 clear HT_ HW_
 have S4 := Aa.mk HS.2.1
 clear HS
 have h := H.out
 clear H
 by_cases c4 : x.f0 = a0_0
 ·(
 rw [if_pos c4] at h
 obtain rfl := Dp h
 have c4b : (x.f0 == a0_0) = true := beq_iff_eq.2 c4
 clear c4
 go_wp2
 go_ret
 exact ⟨rfl, S4.out.1⟩)
 ·(
 rw [if_neg c4] at h
 have H := Aa.mk h
 have c4b : (x.f0 == a0_0) = false := beq_eq_false_iff_ne.2 c4
 clear h c4
 go_wp2
 go_roundg k3
 case measure => have := HK3.out; omega
 case rel => exact ⟨_, rfl, H, ⟨by have := HK3.out; omega⟩, S4⟩))
 ·(
 rw [if_neg c3] at h
 have c3b : decide (6 ≤ a0_0) = false := decide_eq_false c3
 have H := Aa.mk h
 clear c3 h
 rw [c3b]
 refine pu_ 12 (some 127) (bl_ 23 8191) ?_ (v := undef) (hy := Or.inr ⟨by rfl, rfl⟩)
 refine pu_ 14 (some 129) (bl_ 23 24575) ?_ (v := undef) (hy := Or.inr ⟨by rfl, rfl⟩)
 refine pu_ 18 (some 133) (bl_ 23 286719) ?_ (v := undef) (hy := Or.inr ⟨by rfl, rfl⟩)
 refine pu_ 13 (some 128) (bl_ 23 294911) ?_ (v := undef) (hy := Or.inr ⟨by rfl, rfl⟩)
 refine pu_ 15 (some 130) (bl_ 23 327679) ?_ (v := undef) (hy := Or.inr ⟨by rfl, rfl⟩)
 refine pu_ 16 (some 131) (bl_ 23 393215) ?_ (v := undef) (hy := Or.inr ⟨by rfl, rfl⟩)
 refine pu_ 17 (some 132) (bl_ 23 524287) ?_ (v := undef) (hy := Or.inr ⟨by rfl, rfl⟩)
 refine pu_ 19 (some 134) (bl_ 23 1048575) ?_ (v := undef) (hy := Or.inr ⟨by rfl, rfl⟩)
 refine pu_ 20 (some 135) (bl_ 23 2097151) ?_ (v := undef) (hy := Or.inr ⟨by rfl, rfl⟩)
 refine pu_ 21 (some 136) (bl_ 23 4194303) ?_
 refine pu_ 22 (some 137) (bl_ 23 8388607) ?_
 refine done_ (done_of HT_.out (by kernel_rfl)) ?_
 clear HT_ HW_
 have S4 := Aa.mk HS.2.1
 clear HS
 go_wp2
 go_roundg k3
 case measure => have := HK3.out; omega
 case rel => exact ⟨_, rfl, H, ⟨by have := HK3.out; omega⟩, S4⟩)))
 ·(
 rw [if_neg c2] at h
 exact absurd h (by simp)))
 ·(
 rw [if_neg c1] at h
 obtain rfl := Dp h
 have c1b : decide (x5 < (l0_8.length : Int)) = false := decide_eq_false c1
 clear c1
 go_wp2
 go_ret
 exact ⟨rfl, SW.out.1⟩)))))
def flB (x : S27) : Bool :=
  (if x.f0 = 2 then Cb.f x.f0 x.f1 x.f2 x.f3.f0 x.f3.f1 x.f3.f2 x.f4 x.f5 [] x.f0 x.f1 x.f2 x.f3.f0 x.f3.f1 x.f3.f2 x.f4 ⟨#[]⟩ [] else
   if x.f0 = 3 then Cb.f x.f0 x.f1 x.f2 x.f3.f0 x.f3.f1 x.f3.f2 x.f4 x.f5 [] x.f0 x.f1 0 false 0 ⟨#[]⟩ 0 ⟨#[]⟩ [] else
   if x.f0 = 4 then Cb.f x.f0 x.f1 x.f2 x.f3.f0 x.f3.f1 x.f3.f2 x.f4 x.f5 [] x.f0 x.f1 0 false 0 ⟨#[]⟩ 0 x.f5 [] else
   Cb.f x.f0 x.f1 x.f2 x.f3.f0 x.f3.f1 x.f3.f2 x.f4 x.f5 [] x.f0 ⟨#[]⟩ 0 false 0 ⟨#[]⟩ 0 ⟨#[]⟩ []).getD false
def opB (x : S27) : Bool :=
  if x.f0 = 1 then true else if x.f0 = 2 then nameB x.f1 && (decide (1 ≤ x.f2) && (decide (x.f2 ≤ 6) && (Br.f x.f4 false x.f3.f0 x.f3.f1 x.f3.f2).getD false)) else
  if x.f0 = 3 then nameB x.f1 else if x.f0 = 4 then nameB x.f1 && decide (x.f5.size ≤ 40) else decide (5 ≤ x.f0) && decide (x.f0 ≤ 7)
theorem flat_ans (a0 : Int) (a1 : ByteArray) (a2 : Int) (a3 : Bool) (a4 : Int) (a5 : ByteArray) (a6 : Int) (a7 : ByteArray) (a8 : List S27) (b0 : Int) (b1 : ByteArray) (b2 : Int) (b3 : Bool) (b4 : Int) (b5 : ByteArray) (b6 : Int) (b7 : ByteArray) (b8 : List S27) :
    Ans (Cb.f a0 a1 a2 a3 a4 a5 a6 a7 a8 b0 b1 b2 b3 b4 b5 b6 b7 b8) := by
 unfold Cb.f
 repeat' (first | exact Ans.some_ _ | refine Ans.ite ?_ ?_)
theorem flat_same (a0 : Int) (a1 : ByteArray) (a2 : Int) (a3 : Bool) (a4 : Int) (a5 : ByteArray) (a6 : Int) (a7 : ByteArray) (a8 a8' : List S27) (b0 : Int) (b1 : ByteArray) (b2 : Int) (b3 : Bool) (b4 : Int) (b5 : ByteArray) (b6 : Int) (b7 : ByteArray) (b8 b8' : List S27) :
    Dh.f a0 a1 a2 a3 a4 a5 a6 a7 a8 b0 b1 b2 b3 b4 b5 b6 b7 b8 = Cb.f a0 a1 a2 a3 a4 a5 a6 a7 a8' b0 b1 b2 b3 b4 b5 b6 b7 b8' := rfl
theorem fieldsB_eq (x : S27) : fieldsB x = (flB x && opB x) := by
 have hs := fields_some x
 have hm := cellMay_ans x.f4 false x.f3.f0 x.f3.f1 x.f3.f2
 obtain ⟨cm, hcm⟩ := hm
 unfold Da.f Di.f at hs
 unfold flB opB
 rw [hcm]
 by_cases h2 : x.f0 = 2
 ·(
 have h1 : ¬ x.f0 = 1 := by omega
 rw [if_pos h2] at hs ⊢
 simp only [Option.bind_some] at hs
 rw [flat_same _ _ _ _ _ _ _ _ _ [] _ _ _ _ _ _ _ _ _ []] at hs
 obtain ⟨f, hf⟩ := flat_ans x.f0 x.f1 x.f2 x.f3.f0 x.f3.f1 x.f3.f2 x.f4 x.f5 [] x.f0 x.f1 x.f2 x.f3.f0 x.f3.f1 x.f3.f2 x.f4 ⟨#[]⟩ []
 rw [hf] at hs ⊢
 rw [if_neg h1, if_pos h2]
 simp only [Option.bind_some, Bt.f, hcm, if_neg h1, if_pos h2] at hs
 generalize nameB x.f1 = nb at hs ⊢
 generalize fieldsB x = fb at hs ⊢
 clear hf hcm h1 h2
 by_cases g1 : 1 ≤ x.f2
 ·(
 have g1' : x.f2 ≥ 1 := g1
 by_cases g2 : x.f2 ≤ 6
 ·(
 simp only [if_pos g1', if_pos g2] at hs
 rw [decide_eq_true g1, decide_eq_true g2]
 clear g1 g2 g1'
 cases f <;> cases nb <;> simp_all)
 ·(
 simp only [if_pos g1', if_neg g2] at hs
 rw [decide_eq_true g1, decide_eq_false g2]
 clear g1 g2 g1'
 cases f <;> cases nb <;> simp_all))
 ·(
 have g1' : ¬ x.f2 ≥ 1 := g1
 simp only [if_neg g1'] at hs
 rw [decide_eq_false g1]
 clear g1 g1'
 cases f <;> cases nb <;> simp_all))
 by_cases h3 : x.f0 = 3
 ·(
 have h1 : ¬ x.f0 = 1 := by omega
 rw [if_neg h2, if_pos h3] at hs ⊢
 simp only [Option.bind_some] at hs
 rw [flat_same _ _ _ _ _ _ _ _ _ [] _ _ _ _ _ _ _ _ _ []] at hs
 obtain ⟨f, hf⟩ := flat_ans x.f0 x.f1 x.f2 x.f3.f0 x.f3.f1 x.f3.f2 x.f4 x.f5 [] x.f0 x.f1 0 false 0 ⟨#[]⟩ 0 ⟨#[]⟩ []
 rw [hf] at hs ⊢
 rw [if_neg h1, if_neg h2, if_pos h3]
 simp only [Option.bind_some, Bt.f, hcm, if_neg h1, if_neg h2, if_pos h3] at hs
 generalize nameB x.f1 = nb at hs ⊢
 generalize fieldsB x = fb at hs ⊢
 clear hf hcm h1 h2 h3
 cases f <;> cases nb <;> simp_all)
 by_cases h4 : x.f0 = 4
 ·(
 have h1 : ¬ x.f0 = 1 := by omega
 rw [if_neg h2, if_neg h3, if_pos h4] at hs ⊢
 simp only [Option.bind_some] at hs
 rw [flat_same _ _ _ _ _ _ _ _ _ [] _ _ _ _ _ _ _ _ _ []] at hs
 obtain ⟨f, hf⟩ := flat_ans x.f0 x.f1 x.f2 x.f3.f0 x.f3.f1 x.f3.f2 x.f4 x.f5 [] x.f0 x.f1 0 false 0 ⟨#[]⟩ 0 x.f5 []
 rw [hf] at hs ⊢
 rw [if_neg h1, if_neg h2, if_neg h3, if_pos h4]
 simp only [Option.bind_some, Bt.f, hcm, if_neg h1, if_neg h2, if_neg h3, if_pos h4] at hs
 have e : decide ((x.f5.size : Int) ≤ 40) = decide (x.f5.size ≤ 40) := by(
 by_cases g : x.f5.size ≤ 40
 ·rw [decide_eq_true g, decide_eq_true (by omega)]
 ·rw [decide_eq_false g, decide_eq_false (by omega)])
 rw [e] at hs
 generalize nameB x.f1 = nb at hs ⊢
 generalize fieldsB x = fb at hs ⊢
 clear hf hcm h1 h2 h3 h4 e
 cases f <;> cases nb <;> simp_all)
 rw [if_neg h2, if_neg h3, if_neg h4] at hs ⊢
 simp only [Option.bind_some] at hs
 rw [flat_same _ _ _ _ _ _ _ _ _ [] _ _ _ _ _ _ _ _ _ []] at hs
 obtain ⟨f, hf⟩ := flat_ans x.f0 x.f1 x.f2 x.f3.f0 x.f3.f1 x.f3.f2 x.f4 x.f5 [] x.f0 ⟨#[]⟩ 0 false 0 ⟨#[]⟩ 0 ⟨#[]⟩ []
 rw [hf] at hs ⊢
 simp only [Option.bind_some, if_neg h2, if_neg h3, if_neg h4] at hs ⊢
 generalize fieldsB x = fb at hs ⊢
 clear hf hcm
 by_cases h1 : x.f0 = 1
 ·cases f <;> simp_all
 ·(
 rw [if_neg h1] at hs ⊢
 by_cases g1 : 5 ≤ x.f0
 ·(
 have g1' : x.f0 ≥ 5 := g1
 simp only [if_pos g1'] at hs
 rw [decide_eq_true g1]
 clear g1 g1' h1 h2 h3 h4
 cases f <;> simp_all)
 ·(
 have g1' : ¬ x.f0 ≥ 5 := g1
 simp only [if_neg g1'] at hs
 rw [decide_eq_false g1]
 clear g1 g1' h1 h2 h3 h4
 cases f <;> simp_all))
theorem cntL_mem (f : S27 → Option Nat) : ∀ (l : List S27) (c : Nat), cntL f l = some c → ∀ y, y ∈ l → ∃ a, f y = some a
  | [], _, _, y, hy => by cases hy
  | z :: r, c, h, y, hy => by
    obtain ⟨a, ha, h⟩ := Option.bind_eq_some_iff.1 h
    obtain ⟨b, hb, h⟩ := Option.bind_eq_some_iff.1 h
    rcases List.mem_cons.1 hy with rfl | hy
    · exact ⟨a, ha⟩
    · exact cntL_mem f r b hb y hy
def KidsP (d : Nat) (op : Int) (r : List S27) : Prop := ∀ y, y ∈ r → AllL locB d y ∧ (6 ≤ op → ¬ y.f0 = op)
theorem kidsB_iff (op : Int) (ks : List S27) : kidsB op ks = true ↔ (op = 6 ∨ op = 7) ∧ 2 ≤ ks.length ∧ (∀ y, y ∈ ks → ¬ y.f0 = op) ∨ op = 5 ∧ ks.length = 1 ∨ ¬ (op = 6 ∨ op = 7) ∧ ¬ op = 5 ∧ ks = [] := by
 unfold kidsB
 by_cases h : op = 6 ∨ op = 7
 ·(
 have h5 : ¬ op = 5 := by omega
 simp [h, h5])
 ·(
 by_cases h5 : op = 5
 ·subst h5; simp
 ·simp [h, h5])
theorem one_at : ∀ (d : Nat) (x : S27), Fine d x → (∃ c, cnt d x = some c) → TotP (fun r => r = true ↔ AllL locB d x) (fun k => An.f k x.f0 x.f1 x.f2 x.f3.f0 x.f3.f1 x.f3.f2 x.f4 x.f5 x.f6) := by
 intro d
 induction d with
 | zero => rintro x _ ⟨c, hc⟩; simp [cnt] at hc
 | succ d ih =>(
 rintro x ⟨⟨hlen, hs1, hs5, hs3⟩, hfk⟩ ⟨c, hc⟩
 obtain ⟨a, ha, _⟩ := Option.bind_eq_some_iff.1 hc
 have hkid : ∀ y, y ∈ x.f6 → TotP (fun r => r = true ↔ AllL locB d y) (fun k => An.f k y.f0 y.f1 y.f2 y.f3.f0 y.f3.f1 y.f3.f2 y.f4 y.f5 y.f6) := fun y hy => ih y (hfk y hy) (cntL_mem _ _ _ ha y hy)
 have key : ∀ (r : List S27) (i : Nat), x.f6.drop i = r → i ≤ x.f6.length → TotP (fun t => t = true ↔ KidsP d x.f0 r) (fun k => An.l0 k (i : Int) x.f0 x.f1 x.f2 x.f3.f0 x.f3.f1 x.f3.f2 x.f4 x.f5 x.f6) := by(
 intro r
 induction r with
 | nil =>(
 intro i hr hi
 have hi' : i = x.f6.length := by(
 have := congrArg List.length hr
 simp at this
 omega)
 refine TotP.succ (fun k => by simp only [An.l0]; rfl) ?_
 exact TotP.ite (fun h => absurd h (by omega)) (fun _ => TotP.some_ (by simp [KidsP])))
 | cons y r ihr =>(
 intro i hr hi
 have hi' : i < x.f6.length := by(
 have := congrArg List.length hr
 simp at this
 omega)
 have hy : Al x.f6 (i : Int) = y := by(
 have := congrArg List.head? hr
 rw [List.head?_drop] at this
 simp [Al, List.getD_eq_getElem?_getD, this])
 have hr' : x.f6.drop (i + 1) = r := by(
 have := congrArg List.tail hr
 simpa using this)
 have hmem : y ∈ x.f6 := by rw [← hy]; exact rd27_mem x.f6 i hi'
 refine TotP.succ (fun k => by simp only [An.l0]; rfl) ?_
 refine TotP.ite (fun _ => ?_) (fun h => absurd (by omega) h)
 refine TotP.ite (fun _ => ?_) (fun h => absurd (by omega) h)
 rw [hy, wrap_in (by omega) (by omega), show (i : Int) + 1 = ((i + 1 : Nat) : Int) by omega]
 have next := ihr (i + 1) hr' (by omega)
 refine TotP.bind (hkid y hmem) (fun b hb => ?_)
 refine TotP.ite (fun ht => ?_) (fun ht => TotP.some_ ?_)
 ·(
 have hyl := hb.1 ht
 refine TotP.ite (fun h6 => ?_) (fun h6 => ?_)
 ·(
 refine TotP.ite (fun he => TotP.some_ ?_) (fun he => ?_)
 ·refine ⟨fun h => (by cases h), fun h => absurd he ((h y (by simp)).2 h6)⟩
 ·(
 refine next.weak (fun t ht => ht.trans ⟨fun h z hz => ?_, fun h z hz => h z (by simp [hz])⟩)
 rcases List.mem_cons.1 hz with rfl | hz
 ·exact ⟨hyl, fun _ => he⟩
 ·exact h z hz))
 ·(
 refine next.weak (fun t ht => ht.trans ⟨fun h z hz => ?_, fun h z hz => h z (by simp [hz])⟩)
 rcases List.mem_cons.1 hz with rfl | hz
 ·exact ⟨hyl, fun h => absurd h h6⟩
 ·exact h z hz))
 ·refine ⟨fun h => (by cases h), fun h => absurd (hb.2 (h y (by simp)).1) ht⟩))
 have hk0 : TotP (fun t => t = true ↔ KidsP d x.f0 x.f6) (fun k => An.l0 k 0 x.f0 x.f1 x.f2 x.f3.f0 x.f3.f1 x.f3.f2 x.f4 x.f5 x.f6) := by(
 have := key x.f6 0 (by simp) (by omega)
 simpa using this)
 have hj2 : ∀ b : Bool, TotP (fun t => t = true ↔ b = false ∧ KidsP d x.f0 x.f6) (fun k => An.j2 k b x.f0 x.f1 x.f2 x.f3.f0 x.f3.f1 x.f3.f2 x.f4 x.f5 x.f6) := by(
 intro b
 refine TotP.succ (fun k => by simp only [An.j2]; rfl) ?_
 refine TotP.ite (fun h => TotP.some_ (by simp [h])) (fun h => hk0.weak (fun t ht => by rw [ht]; simp [Bool.eq_false_iff.2 h])))
 have hj1 : ∀ (b0 : Int) (b1 : ByteArray) (b2 : Int) (b3 : Bool) (b4 : Int) (b5 : ByteArray) (b6 : Int) (b7 : ByteArray), Cb.f x.f0 x.f1 x.f2 x.f3.f0 x.f3.f1 x.f3.f2 x.f4 x.f5 [] b0 b1 b2 b3 b4 b5 b6 b7 [] = some (flB x) →
    TotP (fun t => t = true ↔ (x.f0 < 5 → x.f6 = []) ∧ flB x = true ∧ KidsP d x.f0 x.f6) (fun k => An.j1 k x.f0 x.f1 x.f2 x.f3.f0 x.f3.f1 x.f3.f2 x.f4 x.f5 x.f6 x.f0 x.f1 x.f2 x.f3.f0 x.f3.f1 x.f3.f2 x.f4 x.f5 b0 b1 b2 b3 b4 b5 b6 b7) := by
  intro b0 b1 b2 b3 b4 b5 b6 b7 hf
  refine TotP.succ (fun k => by simp only [An.j1]; rfl) ?_
  rw [hf]
  refine TotP.ite (fun h5 => ?_) (fun h5 => ?_)
  · refine TotP.ite (fun hl => ?_) (fun hl => ?_)
    · refine (hj2 true).weak (fun t ht => ht.trans ?_)
      have : ¬ x.f6 = [] := fun e => by rw [e] at hl; simp at hl
      simp [h5, this]
    · refine TotP.bind (TotP.some_ (P := fun z => z = flB x) rfl) (fun z hz => ?_)
      subst hz
      refine (hj2 _).weak (fun t ht => ht.trans ?_)
      have : x.f6 = [] := List.eq_nil_of_length_eq_zero (by omega)
      simp [this]
  · refine TotP.bind (TotP.some_ (P := fun z => z = flB x) rfl) (fun z hz => ?_)
    subst hz
    refine (hj2 _).weak (fun t ht => ht.trans ?_)
    simp [h5]
 have hfe := fieldsB_eq x
 have bad : locB x = false → TotP (fun r => r = true ↔ AllL locB (d + 1) x) (fun _ => some false) := fun h => TotP.some_ (by simp [AllL, h])
 have noop : opB x = false → locB x = false := fun h => by unfold locB; rw [hfe, h]; simp
 have nokid : kidsB x.f0 x.f6 = false → locB x = false := fun h => by unfold locB; rw [h]; simp
 have fin : opB x = true → ((x.f0 < 5 → x.f6 = []) ∧ KidsP d x.f0 x.f6 ↔ kidsB x.f0 x.f6 = true ∧ ∀ y, y ∈ x.f6 → AllL locB d y) → ∀ t : Bool, (t = true ↔ (x.f0 < 5 → x.f6 = []) ∧ flB x = true ∧ KidsP d x.f0 x.f6) → (t = true ↔ AllL locB (d + 1) x) := by(
 intro ho hk t ht
 rw [ht]
 simp only [AllL, locB, hfe, ho, Bool.and_true, Bool.and_eq_true]
 constructor
 ·(
 rintro ⟨h1, h2, h3⟩
 obtain ⟨h4, h5⟩ := hk.1 ⟨h1, h3⟩
 exact ⟨⟨h2, h4⟩, h5⟩)
 ·(
 rintro ⟨⟨h2, h4⟩, h5⟩
 obtain ⟨h1, h3⟩ := hk.2 ⟨h4, h5⟩
 exact ⟨h1, h2, h3⟩))
 have leafk : x.f0 < 5 → ((x.f0 < 5 → x.f6 = []) ∧ KidsP d x.f0 x.f6 ↔ kidsB x.f0 x.f6 = true ∧ ∀ y, y ∈ x.f6 → AllL locB d y) := by(
 intro h
 rw [kidsB_iff]
 constructor
 ·(
 rintro ⟨h1, h2⟩
 exact ⟨.inr (.inr ⟨by omega, by omega, h1 h⟩), fun y hy => (h2 y hy).1⟩)
 ·(
 rintro ⟨h1, h2⟩
 have : x.f6 = [] := by(
 rcases h1 with h1 | h1 | h1
 ·omega
 ·omega
 ·exact h1.2.2)
 exact ⟨fun _ => this, fun y hy => ⟨h2 y hy, fun h6 => by omega⟩⟩))
 refine TotP.succ (fun k => by simp only [An.f]; rfl) ?_
 refine TotP.ite (fun h1 => ?_) (fun h1 => ?_)
 ·(
 obtain ⟨f, hf⟩ := flat_ans x.f0 x.f1 x.f2 x.f3.f0 x.f3.f1 x.f3.f2 x.f4 x.f5 [] x.f0 ⟨#[]⟩ 0 false 0 ⟨#[]⟩ 0 ⟨#[]⟩ []
 have he : flB x = f := by unfold flB; rw [if_neg (by omega), if_neg (by omega), if_neg (by omega), hf]; rfl
 exact (hj1 _ _ _ _ _ _ _ _ (by rw [he]; exact hf)).weak (fin (by unfold opB; rw [if_pos h1]) (leafk (by omega))))
 refine TotP.ite (fun h2 => ?_) (fun h2 => ?_)
 ·(
 obtain ⟨f, hf⟩ := flat_ans x.f0 x.f1 x.f2 x.f3.f0 x.f3.f1 x.f3.f2 x.f4 x.f5 [] x.f0 x.f1 x.f2 x.f3.f0 x.f3.f1 x.f3.f2 x.f4 ⟨#[]⟩ []
 have he : flB x = f := by unfold flB; rw [if_pos h2, hf]; rfl
 have ho : opB x = (nameB x.f1 && (decide (1 ≤ x.f2) && (decide (x.f2 ≤ 6) && (Br.f x.f4 false x.f3.f0 x.f3.f1 x.f3.f2).getD false))) := by unfold opB; rw [if_neg h1, if_pos h2]
 refine TotP.bind (name12 x.f1 (by omega)) (fun n hn => ?_)
 subst hn
 refine TotP.ite (fun hn => ?_) (fun hn => bad (noop (by rw [ho, Bool.eq_false_iff.2 hn]; rfl)))
 refine TotP.ite (fun g => bad (noop (by rw [ho, decide_eq_false (show ¬ 1 ≤ x.f2 by omega)]; simp))) (fun g1 => ?_)
 refine TotP.ite (fun g => bad (noop (by rw [ho, decide_eq_false (show ¬ x.f2 ≤ 6 by omega)]; simp))) (fun g2 => ?_)
 refine TotP.bind (may09 _ _ _ _ _) (fun m hm => ?_)
 refine TotP.ite (fun hm1 => ?_) (fun hm1 => bad (noop (by rw [ho, hm, Option.getD_some, Bool.eq_false_iff.2 hm1]; simp)))
 exact (hj1 _ _ _ _ _ _ _ _ (by rw [he]; exact hf)).weak (fin (by rw [ho, hn, hm, Option.getD_some, hm1, decide_eq_true (show 1 ≤ x.f2 by omega), decide_eq_true (show x.f2 ≤ 6 by omega)]; rfl) (leafk (by omega))))
 refine TotP.ite (fun h3 => ?_) (fun h3 => ?_)
 ·(
 obtain ⟨f, hf⟩ := flat_ans x.f0 x.f1 x.f2 x.f3.f0 x.f3.f1 x.f3.f2 x.f4 x.f5 [] x.f0 x.f1 0 false 0 ⟨#[]⟩ 0 ⟨#[]⟩ []
 have he : flB x = f := by unfold flB; rw [if_neg h2, if_pos h3, hf]; rfl
 have ho : opB x = nameB x.f1 := by unfold opB; rw [if_neg h1, if_neg h2, if_pos h3]
 refine TotP.bind (name12 x.f1 (by omega)) (fun n hn => ?_)
 subst hn
 refine TotP.ite (fun hn => ?_) (fun hn => bad (noop (by rw [ho, Bool.eq_false_iff.2 hn])))
 exact (hj1 _ _ _ _ _ _ _ _ (by rw [he]; exact hf)).weak (fin (by rw [ho, hn]) (leafk (by omega))))
 refine TotP.ite (fun h4 => ?_) (fun h4 => ?_)
 ·(
 obtain ⟨f, hf⟩ := flat_ans x.f0 x.f1 x.f2 x.f3.f0 x.f3.f1 x.f3.f2 x.f4 x.f5 [] x.f0 x.f1 0 false 0 ⟨#[]⟩ 0 x.f5 []
 have he : flB x = f := by unfold flB; rw [if_neg h2, if_neg h3, if_pos h4, hf]; rfl
 have ho : opB x = (nameB x.f1 && decide (x.f5.size ≤ 40)) := by unfold opB; rw [if_neg h1, if_neg h2, if_neg h3, if_pos h4]
 refine TotP.bind (name12 x.f1 (by omega)) (fun n hn => ?_)
 subst hn
 refine TotP.ite (fun hn => ?_) (fun hn => bad (noop (by rw [ho, Bool.eq_false_iff.2 hn]; rfl)))
 refine TotP.ite (fun g => bad (noop (by rw [ho, decide_eq_false (show ¬ x.f5.size ≤ 40 by omega)]; simp))) (fun g => ?_)
 exact (hj1 _ _ _ _ _ _ _ _ (by rw [he]; exact hf)).weak (fin (by rw [ho, hn, decide_eq_true (show x.f5.size ≤ 40 by omega)]; rfl) (leafk (by omega))))
 obtain ⟨f, hf⟩ := flat_ans x.f0 x.f1 x.f2 x.f3.f0 x.f3.f1 x.f3.f2 x.f4 x.f5 [] x.f0 ⟨#[]⟩ 0 false 0 ⟨#[]⟩ 0 ⟨#[]⟩ []
 have he : flB x = f := by unfold flB; rw [if_neg h2, if_neg h3, if_neg h4, hf]; rfl
 have ho : opB x = (decide (5 ≤ x.f0) && decide (x.f0 ≤ 7)) := by unfold opB; rw [if_neg h1, if_neg h2, if_neg h3, if_neg h4]
 have hj1' := hj1 _ _ _ _ _ _ _ _ (show Cb.f x.f0 x.f1 x.f2 x.f3.f0 x.f3.f1 x.f3.f2 x.f4 x.f5 [] x.f0 ⟨#[]⟩ 0 false 0 ⟨#[]⟩ 0 ⟨#[]⟩ [] = some (flB x) by rw [he]; exact hf)
 refine TotP.ite (fun h5 => ?_) (fun h5 => ?_)
 ·(
 refine TotP.ite (fun g => ?_) (fun g => bad (nokid (Bool.eq_false_iff.2 (fun h => ?_))))
 ·(
 refine hj1'.weak (fin (by rw [ho, h5]; rfl) ?_)
 rw [kidsB_iff]
 exact ⟨fun h => ⟨.inr (.inl ⟨h5, by omega⟩), fun y hy => (h.2 y hy).1⟩, fun h => ⟨fun h' => by omega, fun y hy => ⟨h.2 y hy, fun h' => by omega⟩⟩⟩)
 ·(
 rw [kidsB_iff] at h
 omega))
 have hj0 : ∀ b : Bool, (b = true → x.f0 = 6 ∨ x.f0 = 7) → (b = false → ¬ (x.f0 = 6 ∨ x.f0 = 7)) → TotP (fun r => r = true ↔ AllL locB (d + 1) x) (fun k => An.j0 k b x.f0 x.f1 x.f2 x.f3.f0 x.f3.f1 x.f3.f2 x.f4 x.f5 x.f6 x.f0 x.f1 x.f2 x.f3.f0 x.f3.f1 x.f3.f2 x.f4 x.f5 x.f0 ⟨#[]⟩ 0 false 0 ⟨#[]⟩ 0 ⟨#[]⟩) := by(
 intro b hb hb'
 refine TotP.succ (fun k => by simp only [An.j0]; rfl) ?_
 refine TotP.ite (fun g => ?_) (fun g => bad (noop ?_))
 ·(
 have h67 := hb g
 refine TotP.ite (fun g2 => bad (nokid (Bool.eq_false_iff.2 (fun h => ?_)))) (fun g2 => ?_)
 ·(
 rw [kidsB_iff] at h
 omega)
 ·(
 refine hj1'.weak (fin (by rw [ho, decide_eq_true (show 5 ≤ x.f0 by omega), decide_eq_true (show x.f0 ≤ 7 by omega)]; rfl) ?_)
 rw [kidsB_iff]
 refine ⟨fun h => ⟨.inl ⟨h67, by omega, fun y hy => (h.2 y hy).2 (by omega)⟩, fun y hy => (h.2 y hy).1⟩, fun h => ⟨fun h' => by omega, fun y hy => ⟨h.2 y hy, fun _ => ?_⟩⟩⟩
 rcases h.1 with h' | h' | h'
 ·exact h'.2.2 y hy
 ·omega
 ·exact absurd h67 h'.1))
 ·(
 have := hb' (Bool.eq_false_iff.2 g)
 rw [ho]
 by_cases g1 : 5 ≤ x.f0
 ·rw [decide_eq_false (show ¬ x.f0 ≤ 7 by omega)]; simp
 ·rw [decide_eq_false g1]; rfl))
 refine TotP.ite (fun h6 => hj0 _ (fun _ => .inl h6) (fun h => ?_)) (fun h6 => hj0 _ (fun h => .inr (by simpa using h)) (fun h => ?_))
 ·rw [h6] at h; cases h
 ·(
 have : ¬ x.f0 = 7 := by simpa using h
 omega))
def Cd.f (k : Nat) (a0_0 : Int) (a0_1 : ByteArray) (a0_2 : Int) (a0_3 : Bool) (a0_4 : Int) (a0_5 : ByteArray) (a0_6 : Int) (a0_7 : ByteArray) (l0_8 : List (S27)) : Option (Bool) := (Az.f k a0_0 a0_1 a0_2 a0_3 a0_4 a0_5 a0_6 a0_7 l0_8 16 6).bind fun t278 => (if t278 ≤ 16 then ((An.f k a0_0 a0_1 a0_2 a0_3 a0_4 a0_5 a0_6 a0_7 l0_8).bind fun t279 => (some t279)) else (some false))
theorem Cd.mono : ∀ a0 a1 a2 a3 a4 a5 a6 a7 a8 k, LeO (Cd.f k a0 a1 a2 a3 a4 a5 a6 a7 a8) (Cd.f (k + 1) a0 a1 a2 a3 a4 a5 a6 a7 a8) := by
 intro a0 a1 a2 a3 a4 a5 a6 a7 a8 k
 unfold Cd.f
 repeat' first|(with_reducible first|exact An.mono _ _ _ _ _ _ _ _ _ _|exact Az.mono _ _ _ _ _ _ _ _ _ _ _ _|exact LeO.refl _|exact LeO.none _|refine LeO.ite ?_ ?_|refine LeO.bind ?_ fun _=>?_)|exact An.mono _ _ _ _ _ _ _ _ _ _|exact Az.mono _ _ _ _ _ _ _ _ _ _ _ _|exact LeO.none _|refine LeO.ite ?_ ?_|refine LeO.bind ?_ fun _=>?_
theorem Cd.calls (k : Nat) (a0_0 : Int) (a0_1 : ByteArray) (a0_2 : Int) (a0_3 : Bool) (a0_4 : Int) (a0_5 : ByteArray) (a0_6 : Int) (a0_7 : ByteArray) (A0_8 : Option Addr) (c0_8 : Nat) (l0_8 : List (S27)) (r : Bool) (w : World) (hr0_8 : Kd.C k27 w A0_8 l0_8.length l0_8) (hc0_8 : l0_8.length ≤ c0_8) (h : Cd.f k a0_0 a0_1 a0_2 a0_3 a0_4 a0_5 a0_6 a0_7 l0_8 = some r) :
  Calls Try.prog 54 #[.agg #[.int .i64 a0_0, .string a0_1, .int .i64 a0_2, .bool a0_3, .int .i64 a0_4, .string a0_5, .int .i64 a0_6, .string a0_7, .slice A0_8 l0_8.length c0_8]] w fun e w' => e = .returned (.bool r) ∧ Below w.heap.size w w' := by
 have hu27 := Try.underlying27
 have HR0_8 := Aa.mk hr0_8
 have HC0_8 := Aa.mk hc0_8
 clear hr0_8 hc0_8
 have HB := Aa.mk (Below.refl w.heap.size w)
 have H : ((Az.f k a0_0 a0_1 a0_2 a0_3 a0_4 a0_5 a0_6 a0_7 l0_8 16 6).bind fun t278 => (if t278 ≤ 16 then ((An.f k a0_0 a0_1 a0_2 a0_3 a0_4 a0_5 a0_6 a0_7 l0_8).bind fun t279 => (some t279)) else (some false))) = some r := h
 clear h
 replace H := Dn H
 obtain ⟨t278, A20, H⟩ := H
 replace H : (if t278 ≤ 16 then ((An.f k a0_0 a0_1 a0_2 a0_3 a0_4 a0_5 a0_6 a0_7 l0_8).bind fun t279 => (some t279)) else (some false)) = some r := H
 have A2 := Aa.mk A20
 clear A20
 by_cases c3 : t278 ≤ 16
 ·(
 rw [if_pos c3] at H
 have c3b0 : decide (t278 ≤ 16) = true := decide_eq_true c3
 clear c3
 replace H := Dn H
 obtain ⟨t279, A40, H⟩ := H
 replace H : (some t279) = some r := H
 have A4 := Aa.mk A40
 clear A40
 obtain rfl := Dp H
 go_enter Try.func54, Try.ntmps54
 go_wp2_with (first | (refine bx_ (N := 1) (cs := #[.int .i64 a0_0, .string a0_1, .int .i64 a0_2, .bool a0_3, .int .i64 a0_4, .string a0_5, .int .i64 a0_6, .string a0_7, .slice A0_8 l0_8.length c0_8]) (t := 27) ?_; intro gb277 hg w5 hbox hb; have BK277 := Aa.mk (hbox); have GW277 := ge_ HB hg; have GE277 := ge_ HB hg; replace HB := bs_ HB hb; clear hb hbox hg; obtain ⟨C6_0, C6_1, C6_2, C6_3, C6_4, C6_5, C6_6, C6_7, C6_8⟩ := zc9_ BK277.out; obtain ⟨F6_0, F6_1, F6_2, F6_3, F6_4, F6_5, F6_6, F6_7, F6_8⟩ := zf9_ BK277.out) | ((with_reducible refine Aw (f := 77) rfl ?_); refine gl_ (some 4) rfl Try.func77 #[.agg #[.int .i64 a0_0, .string a0_1, .int .i64 a0_2, .bool a0_3, .int .i64 a0_4, .string a0_5, .int .i64 a0_6, .string a0_7, .slice A0_8 l0_8.length c0_8], .int .i64 16, .int .i64 6] ?_; (with_reducible refine (Az.calls k a0_0 a0_1 a0_2 a0_3 a0_4 a0_5 a0_6 a0_7 _ _ l0_8 16 6 t278 _ ?side1 ?side2 A2.out).mono ?_); (case side1 => repeat (first | exact (Kd.C_below HR0_8.out HB.out) | (with_reducible refine Kd.C_alloc ?_ _) | (with_reducible refine Kd.C_drewN ?_ _) | (with_reducible refine Kd.C_drew ?_))); (case side2 => exact HC0_8.out); rintro e w7 ⟨rfl, hb⟩; refine ⟨_, rfl, ?_⟩;  replace BK277 := bk_ BK277 hb; replace HB := bs_ HB hb; (try clear hb); obtain ⟨C8_0, C8_1, C8_2, C8_3, C8_4, C8_5, C8_6, C8_7, C8_8⟩ := zc9_ BK277.out; obtain ⟨F8_0, F8_1, F8_2, F8_3, F8_4, F8_5, F8_6, F8_7, F8_8⟩ := zf9_ BK277.out) | (go_at_call 78; (with_reducible refine (An.calls k a0_0 a0_1 a0_2 a0_3 a0_4 a0_5 a0_6 a0_7 _ _ l0_8 t279 _ ?side1 ?side2 A4.out).mono ?_); (case side1 => repeat (first | exact (Kd.C_below HR0_8.out HB.out) | (with_reducible refine Kd.C_alloc ?_ _) | (with_reducible refine Kd.C_drewN ?_ _) | (with_reducible refine Kd.C_drew ?_))); (case side2 => exact HC0_8.out); rintro e w9 ⟨rfl, hb⟩;  replace BK277 := bk_ BK277 hb; replace HB := bs_ HB hb; (try clear hb)))
 go_ret
 exact en_ HB)
 ·(
 rw [if_neg c3] at H
 have c3b0 : decide (t278 ≤ 16) = false := decide_eq_false c3
 clear c3
 obtain rfl := Dp H
 go_enter Try.func54, Try.ntmps54
 go_wp2_with (first | (refine bx_ (N := 1) (cs := #[.int .i64 a0_0, .string a0_1, .int .i64 a0_2, .bool a0_3, .int .i64 a0_4, .string a0_5, .int .i64 a0_6, .string a0_7, .slice A0_8 l0_8.length c0_8]) (t := 27) ?_; intro gb277 hg w10 hbox hb; have BK277 := Aa.mk (hbox); have GW277 := ge_ HB hg; have GE277 := ge_ HB hg; replace HB := bs_ HB hb; clear hb hbox hg; obtain ⟨C11_0, C11_1, C11_2, C11_3, C11_4, C11_5, C11_6, C11_7, C11_8⟩ := zc9_ BK277.out; obtain ⟨F11_0, F11_1, F11_2, F11_3, F11_4, F11_5, F11_6, F11_7, F11_8⟩ := zf9_ BK277.out) | ((with_reducible refine Aw (f := 77) rfl ?_); refine gl_ (some 4) rfl Try.func77 #[.agg #[.int .i64 a0_0, .string a0_1, .int .i64 a0_2, .bool a0_3, .int .i64 a0_4, .string a0_5, .int .i64 a0_6, .string a0_7, .slice A0_8 l0_8.length c0_8], .int .i64 16, .int .i64 6] ?_; (with_reducible refine (Az.calls k a0_0 a0_1 a0_2 a0_3 a0_4 a0_5 a0_6 a0_7 _ _ l0_8 16 6 t278 _ ?side1 ?side2 A2.out).mono ?_); (case side1 => repeat (first | exact (Kd.C_below HR0_8.out HB.out) | (with_reducible refine Kd.C_alloc ?_ _) | (with_reducible refine Kd.C_drewN ?_ _) | (with_reducible refine Kd.C_drew ?_))); (case side2 => exact HC0_8.out); rintro e w12 ⟨rfl, hb⟩; refine ⟨_, rfl, ?_⟩;  replace BK277 := bk_ BK277 hb; replace HB := bs_ HB hb; (try clear hb)))
 go_ret
 exact en_ HB)
theorem may17 (x : S27) (h : Fine 6 x) : TotP (fun r => r = mayB x) (fun k => Cd.f k x.f0 x.f1 x.f2 x.f3.f0 x.f3.f1 x.f3.f2 x.f4 x.f5 x.f6) := by
 unfold Cd.f
 have hev := (ev_may 6 x 0 (by omega)).1
 refine TotP.bind (size_at 6 16 x (by omega) (by omega) (Fine.lens 6 x h)) (fun s hs => ?_)
 obtain ⟨h1, h2, h3, h4⟩ := hs
 refine TotP.ite (fun hle => ?_) (fun hle => TotP.some_ ?_)
 ·(
 obtain ⟨hc, _⟩ := h3 hle
 refine TotP.bind (one_at 6 x h ⟨_, hc⟩) (fun b hb => TotP.some_ ?_)
 unfold mayB
 have hev' : (ev mayStep 6 x 0).1 = true ↔ ∃ c, cnt 6 x = some c ∧ 0 + c ≤ 16 ∧ AllL locB 6 x := by simpa using hev
 have : b = true ↔ (ev mayStep 6 x 0).1 = true := by(
 rw [hb, hev']
 exact ⟨fun hl => ⟨_, hc, by omega, hl⟩, fun ⟨_, _, _, hl⟩ => hl⟩)
 cases b <;> cases hq : (ev mayStep 6 x 0).1 <;> simp_all)
 ·(
 unfold mayB
 have hev' : (ev mayStep 6 x 0).1 = true ↔ ∃ c, cnt 6 x = some c ∧ 0 + c ≤ 16 ∧ AllL locB 6 x := by simpa using hev
 cases hq : (ev mayStep 6 x 0).1 with
 | false => rfl
 | true =>(
 obtain ⟨c, hc, hcn, _⟩ := hev'.1 hq
 have := h4 c hc (by omega)
 omega))
mutual
def Ap.l0 : Nat → List (S64) → Int → Option (Int)
 | 0, _, _ => none
 | k + 1, x0, x3 => if x3 < (x0.length : Int) then (if 0 ≤ x3 then ((Aq.f k ((Bj x0 x3).f0)).bind fun t281 => (if t281 = true then (if ((Bj x0 x3).f1) < 1 then (Ap.j1 k x0 x3 true) else (Ap.j1 k x0 x3 (decide (((Bj x0 x3).f1) > 3)))) else (Ap.j1 k x0 x3 true))) else (none)) else (if (x0.length : Int) = 0 then (some 1) else (if (x0.length : Int) > 6 then (some 4) else (some 0)))
def Ap.j1 : Nat → List (S64) → Int → Bool → Option (Int)
 | 0, _, _, _ => none
 | k + 1, x0, x3, x33 => if x33 = true then (some 1) else (Ap.l1 k x0 x3 0)
def Ap.l1 : Nat → List (S64) → Int → Int → Option (Int)
 | 0, _, _, _ => none
 | k + 1, x0, x3, x4 => if x4 < x3 then (if 0 ≤ x4 then (if x4 < (x0.length : Int) then (if 0 ≤ x3 then (if x3 < (x0.length : Int) then (if ((Bj x0 x4).f0).toList = ((Bj x0 x3).f0).toList then (some 1) else (Ap.l1 k x0 x3 (wrap64 (x4 + 1)))) else (none)) else (none)) else (none)) else (none)) else (Ap.l0 k x0 (wrap64 (x3 + 1)))
end
def Ap.f (k : Nat) (l0 : List (S64)) : Option (Int) := Ap.l0 k l0 0
theorem Ap.mono_l : ∀ k, (∀ y0 y1, LeO (Ap.l0 k y0 y1) (Ap.l0 (k + 1) y0 y1)) ∧ (∀ y0 y1 y2, LeO (Ap.j1 k y0 y1 y2) (Ap.j1 (k + 1) y0 y1 y2)) ∧ (∀ y0 y1 y2, LeO (Ap.l1 k y0 y1 y2) (Ap.l1 (k + 1) y0 y1 y2))
 | 0 => ⟨fun _ _ r h => by simp [Ap.l0] at h, fun _ _ _ r h => by simp [Ap.j1] at h, fun _ _ _ r h => by simp [Ap.l1] at h⟩
 | k + 1 => by
  obtain ⟨ih0, ih1, ih2⟩ := Ap.mono_l k
  refine ⟨?_, ?_, ?_⟩
  focus intro y0 y1;unfold Ap.l0
  rotate_left
  focus intro y0 y1 y2;unfold Ap.j1
  rotate_left
  focus intro y0 y1 y2;unfold Ap.l1
  rotate_left
  all_goals repeat' first|(with_reducible first|exact ih0 _ _|exact ih1 _ _ _|exact ih2 _ _ _|exact Aq.mono _ _|exact LeO.refl _|exact LeO.none _|refine LeO.ite ?_ ?_|refine LeO.bind ?_ fun _=>?_)|exact ih0 _ _|exact ih1 _ _ _|exact ih2 _ _ _|exact Aq.mono _ _|exact LeO.none _|refine LeO.ite ?_ ?_|refine LeO.bind ?_ fun _=>?_
theorem Ap.mono : ∀ a0 k, LeO (Ap.f k a0) (Ap.f (k + 1) a0) := by
 intro a0 k
 obtain ⟨ih0, ih1, ih2⟩ := Ap.mono_l k
 unfold Ap.f
 repeat' first|(with_reducible first|exact ih0 _ _|exact ih1 _ _ _|exact ih2 _ _ _|exact Aq.mono _ _|exact LeO.refl _|exact LeO.none _|refine LeO.ite ?_ ?_|refine LeO.bind ?_ fun _=>?_)|exact ih0 _ _|exact ih1 _ _ _|exact ih2 _ _ _|exact Aq.mono _ _|exact LeO.none _|refine LeO.ite ?_ ?_|refine LeO.bind ?_ fun _=>?_
theorem Ap.calls (k : Nat) (A0 : Option Addr) (c0 : Nat) (l0 : List (S64)) (r : Int) (w : World) (hr0 : Kd.C k64 w A0 l0.length l0) (hc0 : l0.length ≤ c0) (h : Ap.f k l0 = some r) :
  Calls Try.prog 55 #[.slice A0 l0.length c0] w fun e w' => e = .returned (.int .i64 r) ∧ Below w.heap.size w w' := by
 have HR0 := Aa.mk hr0
 have HC0 := Aa.mk hc0
 clear hr0 hc0
 have HB := Aa.mk (Below.refl w.heap.size w)
 have H : (Ap.l0 k l0 0) = some r := h
 clear h
 have H' := Aa.mk H
 clear H
 go_enter Try.func55, Try.ntmps55
 go_wp2
 repeat (go_quiet (fail); try go_wp2)
 go_loopg [3] k (fun kq v3 w' => ∃ (x3_1 : Int), v3 = .int .i64 x3_1 ∧ Aa (Ap.l0 kq l0 x3_1 = some r) ∧ Aa (kq ≤ k) ∧ Aa (Below w.heap.size w w'))
 case atStart => exact ⟨_, (by first | rfl | (simp; done) | (simp [*]; done)), H', ⟨Nat.le_refl _⟩, ⟨by repeat (first | (with_reducible first | exact HB.out | apply Ak | apply Ah | apply Aj) | exact HB.out)⟩⟩
 case round =>(
 clear H'
 obtain ⟨x3_1, rfl, HA, HK1, HB⟩ := hrel
 cases gk with
 | zero => exact absurd HA.out (by simp [Ap.l0])
 | succ k1 =>(
 have H := HA.out
 clear HA
 simp only [Ap.l0] at H
 by_cases c2 : x3_1 < (l0.length : Int)
 ·(
 rw [if_pos c2] at H
 have c2b0 : decide (x3_1 < (l0.length : Int)) = true := decide_eq_true c2
 clear c2
 have HC3 := Aa.mk H
 clear H
 go_upto_region 4 with (fail)
 repeat (go_quiet (fail); go_upto_region 4 with (fail))
 go_cut [33] (fun v33 wc => ∃ (kq : Nat) (x33_2 : Bool), v33 = .bool x33_2 ∧ Aa (Ap.j1 kq l0 x3_1 x33_2 = some r) ∧ Aa (kq ≤ k1) ∧ Aa (Below w.heap.size w wc))
 case first =>(
 have H := HC3.out
 clear HC3
 by_cases c4 : 0 ≤ x3_1
 ·(
 rw [if_pos c4] at H
 have c4b0 : decide (0 ≤ x3_1) = true := decide_eq_true c4
 clear c4
 (first | rw [c4b0] | (simp only [i64_w, i32_w]; rw [c4b0]) | skip)
 replace H := Dn H
 obtain ⟨t281, A50, H⟩ := H
 replace H : (if t281 = true then (if ((Bj l0 x3_1).f1) < 1 then (Ap.j1 k1 l0 x3_1 true) else (Ap.j1 k1 l0 x3_1 (decide (((Bj l0 x3_1).f1) > 3)))) else (Ap.j1 k1 l0 x3_1 true)) = some r := H
 have A5 := Aa.mk A50
 clear A50
 by_cases c6 : t281 = true
 rotate_left
 focus(
 replace c6 := Dq c6
 subst c6
 have H1 : (Ap.j1 k1 l0 x3_1 true) = some r := by rw [if_neg (show ¬ (false = true) by decide)] at H; exact H
 clear H
 have H := H1
 clear H1
 have H' := Aa.mk H
 clear H
 have p280 : 0 ≤ (x3_1 : Int) := dt_
 have q280 : x3_1 < (l0.length : Int) := dt_
 obtain ⟨ad280, e280, hx280_0, hx280_1, hx280_2⟩ := at_T64 HR0.out x3_1 p280 q280
 cases e280
 replace hx280_0 := hc_ HB hx280_0
 replace hx280_1 := hc_ HB hx280_1
 replace hx280_2 := hc_ HB hx280_2
 replace p280 := eq_true p280
 replace q280 := eq_true q280
 go_wp2_with (first | (go_at_call 79; (with_reducible refine (Aq.calls k1 ((Bj l0 x3_1).f0) false _ A5.out).mono ?_); rintro e w10 ⟨rfl, hb⟩;  replace HB := bs_ HB hb; (try clear hb)))
 repeat (go_quiet (first | (go_at_call 79; (with_reducible refine (Aq.calls k1 ((Bj l0 x3_1).f0) false _ A5.out).mono ?_); rintro e w10 ⟨rfl, hb⟩;  replace HB := bs_ HB hb; (try clear hb))); try go_wp2_with (first | (go_at_call 79; (with_reducible refine (Aq.calls k1 ((Bj l0 x3_1).f0) false _ A5.out).mono ?_); rintro e w10 ⟨rfl, hb⟩;  replace HB := bs_ HB hb; (try clear hb)))))
 rotate_right
 focus(
 subst c6
 have H1 : (if ((Bj l0 x3_1).f1) < 1 then (Ap.j1 k1 l0 x3_1 true) else (Ap.j1 k1 l0 x3_1 (decide (((Bj l0 x3_1).f1) > 3)))) = some r := by rw [if_pos rfl] at H; exact H
 clear H
 have H := H1
 clear H1
 by_cases c7 : ((Bj l0 x3_1).f1) < 1
 rotate_left
 focus(
 rw [if_neg c7] at H
 have c7b0 : decide (((Bj l0 x3_1).f1) < 1) = false := decide_eq_false c7
 clear c7
 have H' := Aa.mk H
 clear H
 have p280 : 0 ≤ (x3_1 : Int) := dt_
 have q280 : x3_1 < (l0.length : Int) := dt_
 obtain ⟨ad280, e280, hx280_0, hx280_1, hx280_2⟩ := at_T64 HR0.out x3_1 p280 q280
 cases e280
 replace hx280_0 := hc_ HB hx280_0
 replace hx280_1 := hc_ HB hx280_1
 replace hx280_2 := hc_ HB hx280_2
 replace p280 := eq_true p280
 replace q280 := eq_true q280
 go_wp2_with (first | (go_at_call 79; (with_reducible refine (Aq.calls k1 ((Bj l0 x3_1).f0) true _ A5.out).mono ?_); rintro e w9 ⟨rfl, hb⟩;  replace HB := bs_ HB hb; (try clear hb); have p282 : 0 ≤ (x3_1 : Int) := dt_; have q282 : x3_1 < (l0.length : Int) := dt_; obtain ⟨ad282, e282, hx282_0, hx282_1, hx282_2⟩ := at_T64 HR0.out x3_1 p282 q282; obtain rfl : ad280 = ad282 := (by injection e282); replace hx282_0 := hc_ HB hx282_0; replace hx282_1 := hc_ HB hx282_1; replace hx282_2 := hc_ HB hx282_2; replace p282 := eq_true p282; replace q282 := eq_true q282; have p283 : 0 ≤ (x3_1 : Int) := dt_; have q283 : x3_1 < (l0.length : Int) := dt_; obtain ⟨ad283, e283, hx283_0, hx283_1, hx283_2⟩ := at_T64 HR0.out x3_1 p283 q283; obtain rfl : ad280 = ad283 := (by injection e283); replace hx283_0 := hc_ HB hx283_0; replace hx283_1 := hc_ HB hx283_1; replace hx283_2 := hc_ HB hx283_2; replace p283 := eq_true p283; replace q283 := eq_true q283))
 repeat (go_quiet (first | (go_at_call 79; (with_reducible refine (Aq.calls k1 ((Bj l0 x3_1).f0) true _ A5.out).mono ?_); rintro e w9 ⟨rfl, hb⟩;  replace HB := bs_ HB hb; (try clear hb); have p282 : 0 ≤ (x3_1 : Int) := dt_; have q282 : x3_1 < (l0.length : Int) := dt_; obtain ⟨ad282, e282, hx282_0, hx282_1, hx282_2⟩ := at_T64 HR0.out x3_1 p282 q282; obtain rfl : ad280 = ad282 := (by injection e282); replace hx282_0 := hc_ HB hx282_0; replace hx282_1 := hc_ HB hx282_1; replace hx282_2 := hc_ HB hx282_2; replace p282 := eq_true p282; replace q282 := eq_true q282; have p283 : 0 ≤ (x3_1 : Int) := dt_; have q283 : x3_1 < (l0.length : Int) := dt_; obtain ⟨ad283, e283, hx283_0, hx283_1, hx283_2⟩ := at_T64 HR0.out x3_1 p283 q283; obtain rfl : ad280 = ad283 := (by injection e283); replace hx283_0 := hc_ HB hx283_0; replace hx283_1 := hc_ HB hx283_1; replace hx283_2 := hc_ HB hx283_2; replace p283 := eq_true p283; replace q283 := eq_true q283)); try go_wp2_with (first | (go_at_call 79; (with_reducible refine (Aq.calls k1 ((Bj l0 x3_1).f0) true _ A5.out).mono ?_); rintro e w9 ⟨rfl, hb⟩;  replace HB := bs_ HB hb; (try clear hb); have p282 : 0 ≤ (x3_1 : Int) := dt_; have q282 : x3_1 < (l0.length : Int) := dt_; obtain ⟨ad282, e282, hx282_0, hx282_1, hx282_2⟩ := at_T64 HR0.out x3_1 p282 q282; obtain rfl : ad280 = ad282 := (by injection e282); replace hx282_0 := hc_ HB hx282_0; replace hx282_1 := hc_ HB hx282_1; replace hx282_2 := hc_ HB hx282_2; replace p282 := eq_true p282; replace q282 := eq_true q282; have p283 : 0 ≤ (x3_1 : Int) := dt_; have q283 : x3_1 < (l0.length : Int) := dt_; obtain ⟨ad283, e283, hx283_0, hx283_1, hx283_2⟩ := at_T64 HR0.out x3_1 p283 q283; obtain rfl : ad280 = ad283 := (by injection e283); replace hx283_0 := hc_ HB hx283_0; replace hx283_1 := hc_ HB hx283_1; replace hx283_2 := hc_ HB hx283_2; replace p283 := eq_true p283; replace q283 := eq_true q283))))
 rotate_right
 focus(
 rw [if_pos c7] at H
 have c7b0 : decide (((Bj l0 x3_1).f1) < 1) = true := decide_eq_true c7
 clear c7
 have H' := Aa.mk H
 clear H
 have p280 : 0 ≤ (x3_1 : Int) := dt_
 have q280 : x3_1 < (l0.length : Int) := dt_
 obtain ⟨ad280, e280, hx280_0, hx280_1, hx280_2⟩ := at_T64 HR0.out x3_1 p280 q280
 cases e280
 replace hx280_0 := hc_ HB hx280_0
 replace hx280_1 := hc_ HB hx280_1
 replace hx280_2 := hc_ HB hx280_2
 replace p280 := eq_true p280
 replace q280 := eq_true q280
 go_wp2_with (first | (go_at_call 79; (with_reducible refine (Aq.calls k1 ((Bj l0 x3_1).f0) true _ A5.out).mono ?_); rintro e w8 ⟨rfl, hb⟩;  replace HB := bs_ HB hb; (try clear hb); have p282 : 0 ≤ (x3_1 : Int) := dt_; have q282 : x3_1 < (l0.length : Int) := dt_; obtain ⟨ad282, e282, hx282_0, hx282_1, hx282_2⟩ := at_T64 HR0.out x3_1 p282 q282; obtain rfl : ad280 = ad282 := (by injection e282); replace hx282_0 := hc_ HB hx282_0; replace hx282_1 := hc_ HB hx282_1; replace hx282_2 := hc_ HB hx282_2; replace p282 := eq_true p282; replace q282 := eq_true q282))
 repeat (go_quiet (first | (go_at_call 79; (with_reducible refine (Aq.calls k1 ((Bj l0 x3_1).f0) true _ A5.out).mono ?_); rintro e w8 ⟨rfl, hb⟩;  replace HB := bs_ HB hb; (try clear hb); have p282 : 0 ≤ (x3_1 : Int) := dt_; have q282 : x3_1 < (l0.length : Int) := dt_; obtain ⟨ad282, e282, hx282_0, hx282_1, hx282_2⟩ := at_T64 HR0.out x3_1 p282 q282; obtain rfl : ad280 = ad282 := (by injection e282); replace hx282_0 := hc_ HB hx282_0; replace hx282_1 := hc_ HB hx282_1; replace hx282_2 := hc_ HB hx282_2; replace p282 := eq_true p282; replace q282 := eq_true q282)); try go_wp2_with (first | (go_at_call 79; (with_reducible refine (Aq.calls k1 ((Bj l0 x3_1).f0) true _ A5.out).mono ?_); rintro e w8 ⟨rfl, hb⟩;  replace HB := bs_ HB hb; (try clear hb); have p282 : 0 ≤ (x3_1 : Int) := dt_; have q282 : x3_1 < (l0.length : Int) := dt_; obtain ⟨ad282, e282, hx282_0, hx282_1, hx282_2⟩ := at_T64 HR0.out x3_1 p282 q282; obtain rfl : ad280 = ad282 := (by injection e282); replace hx282_0 := hc_ HB hx282_0; replace hx282_1 := hc_ HB hx282_1; replace hx282_2 := hc_ HB hx282_2; replace p282 := eq_true p282; replace q282 := eq_true q282)))))
 all_goals(
 go_meet
 case rel => exact ⟨_, _, (by first | rfl | (simp; done) | (simp [*]; done)), H', ⟨by have := HK1.out; first | omega | exact Nat.le_refl _⟩, ⟨by repeat (first | (with_reducible first | exact HB.out | apply Ak | apply Ah | apply Aj) | exact HB.out)⟩⟩))
 ·(
 rw [if_neg c4] at H
 exact absurd H (by simp)))
 case rest =>(
 clear HC3
 try clear c2
 try clear c2b0
 try clear c4
 try clear c4b0
 try clear c6
 try clear c7
 try clear c7b0
 try clear hx280_0
 try clear hx280_1
 try clear hx280_2
 try clear hx282_0
 try clear hx282_1
 try clear hx282_2
 try clear hx283_0
 try clear hx283_1
 try clear hx283_2
 try clear p280
 try clear p282
 try clear p283
 try clear q280
 try clear q282
 try clear q283
 obtain ⟨kq, x33_2, rfl, HA, HJ2, HB⟩ := hcut
 cases kq with
 | zero => exact absurd HA.out (by simp [Ap.j1])
 | succ kj2 =>(
 have H := HA.out
 clear HA
 simp only [Ap.j1] at H
 by_cases c11 : x33_2 = true
 ·(
 subst c11
 have H1 : (some 1) = some r := by rw [if_pos rfl] at H; exact H
 clear H
 have H := H1
 clear H1
 obtain rfl := Dp H
 go_wp2
 repeat (go_quiet (fail); try go_wp2)
 go_ret
 exact en_ HB)
 ·(
 replace c11 := Dq c11
 subst c11
 have H1 : (Ap.l1 kj2 l0 x3_1 0) = some r := by rw [if_neg (show ¬ (false = true) by decide)] at H; exact H
 clear H
 have H := H1
 clear H1
 have H' := Aa.mk H
 clear H
 go_wp2
 repeat (go_quiet (fail); try go_wp2)
 go_loopg [4] kj2 (fun kq v4 w' => ∃ (x4_3 : Int), v4 = .int .i64 x4_3 ∧ Aa (Ap.l1 kq l0 x3_1 x4_3 = some r) ∧ Aa (kq ≤ kj2) ∧ Aa (Below w.heap.size w w'))
 case atStart => exact ⟨_, (by first | rfl | (simp; done) | (simp [*]; done)), H', ⟨Nat.le_refl _⟩, ⟨by repeat (first | (with_reducible first | exact HB.out | apply Ak | apply Ah | apply Aj) | exact HB.out)⟩⟩
 case round =>(
 clear H'
 try clear c11
 obtain ⟨x4_3, rfl, HA, HK3, HB⟩ := hrel
 cases gk with
 | zero => exact absurd HA.out (by simp [Ap.l1])
 | succ k3 =>(
 have H := HA.out
 clear HA
 simp only [Ap.l1] at H
 by_cases c12 : x4_3 < x3_1
 ·(
 rw [if_pos c12] at H
 have c12b0 : decide (x4_3 < x3_1) = true := decide_eq_true c12
 clear c12
 by_cases c13 : 0 ≤ x4_3
 ·(
 rw [if_pos c13] at H
 have c13b0 : decide (0 ≤ x4_3) = true := decide_eq_true c13
 clear c13
 by_cases c14 : x4_3 < (l0.length : Int)
 ·(
 rw [if_pos c14] at H
 have c14b0 : decide (x4_3 < (l0.length : Int)) = true := decide_eq_true c14
 clear c14
 by_cases c15 : 0 ≤ x3_1
 ·(
 rw [if_pos c15] at H
 have c15b0 : decide (0 ≤ x3_1) = true := decide_eq_true c15
 clear c15
 by_cases c16 : x3_1 < (l0.length : Int)
 ·(
 rw [if_pos c16] at H
 have c16b0 : decide (x3_1 < (l0.length : Int)) = true := decide_eq_true c16
 clear c16
 by_cases c17 : ((Bj l0 x4_3).f0).toList = ((Bj l0 x3_1).f0).toList
 ·(
 rw [if_pos c17] at H
 have c17b0 : (((Bj l0 x4_3).f0).toList == ((Bj l0 x3_1).f0).toList) = true := Dl c17
 have c17b1 : (((Bj l0 x4_3).f0).toList != ((Bj l0 x3_1).f0).toList) = false := Dk c17
 clear c17
 obtain rfl := Dp H
 have p284 : 0 ≤ (x4_3 : Int) := dt_
 have q284 : x4_3 < (l0.length : Int) := dt_
 obtain ⟨ad284, e284, hx284_0, hx284_1, hx284_2⟩ := at_T64 HR0.out x4_3 p284 q284
 cases e284
 replace hx284_0 := hc_ HB hx284_0
 replace hx284_1 := hc_ HB hx284_1
 replace hx284_2 := hc_ HB hx284_2
 replace p284 := eq_true p284
 replace q284 := eq_true q284
 have p285 : 0 ≤ (x3_1 : Int) := dt_
 have q285 : x3_1 < (l0.length : Int) := dt_
 obtain ⟨ad285, e285, hx285_0, hx285_1, hx285_2⟩ := at_T64 HR0.out x3_1 p285 q285
 obtain rfl : ad284 = ad285 := (by injection e285)
 replace hx285_0 := hc_ HB hx285_0
 replace hx285_1 := hc_ HB hx285_1
 replace hx285_2 := hc_ HB hx285_2
 replace p285 := eq_true p285
 replace q285 := eq_true q285
 go_wp2
 repeat (go_quiet (fail); try go_wp2)
 go_ret
 exact en_ HB)
 ·(
 rw [if_neg c17] at H
 have c17b0 : (((Bj l0 x4_3).f0).toList == ((Bj l0 x3_1).f0).toList) = false := Dj c17
 have c17b1 : (((Bj l0 x4_3).f0).toList != ((Bj l0 x3_1).f0).toList) = true := Dm c17
 have H' := Aa.mk H
 clear H
 have p284 : 0 ≤ (x4_3 : Int) := dt_
 have q284 : x4_3 < (l0.length : Int) := dt_
 obtain ⟨ad284, e284, hx284_0, hx284_1, hx284_2⟩ := at_T64 HR0.out x4_3 p284 q284
 cases e284
 replace hx284_0 := hc_ HB hx284_0
 replace hx284_1 := hc_ HB hx284_1
 replace hx284_2 := hc_ HB hx284_2
 replace p284 := eq_true p284
 replace q284 := eq_true q284
 have p285 : 0 ≤ (x3_1 : Int) := dt_
 have q285 : x3_1 < (l0.length : Int) := dt_
 obtain ⟨ad285, e285, hx285_0, hx285_1, hx285_2⟩ := at_T64 HR0.out x3_1 p285 q285
 obtain rfl : ad284 = ad285 := (by injection e285)
 replace hx285_0 := hc_ HB hx285_0
 replace hx285_1 := hc_ HB hx285_1
 replace hx285_2 := hc_ HB hx285_2
 replace p285 := eq_true p285
 replace q285 := eq_true q285
 go_wp2
 repeat (go_quiet (fail); try go_wp2)
 go_roundg k3
 case measure => have := HK1.out; have := HJ2.out; have := HK3.out; omega
 case rel => exact ⟨_, (by first | rfl | (simp; done) | (simp [*]; done)), H', ⟨by have := HK1.out; have := HJ2.out; have := HK3.out; omega⟩, ⟨by repeat (first | (with_reducible first | exact HB.out | apply Ak | apply Ah | apply Aj) | exact HB.out)⟩⟩))
 ·(
 rw [if_neg c16] at H
 exact absurd H (by simp)))
 ·(
 rw [if_neg c15] at H
 exact absurd H (by simp)))
 ·(
 rw [if_neg c14] at H
 exact absurd H (by simp)))
 ·(
 rw [if_neg c13] at H
 exact absurd H (by simp)))
 ·(
 rw [if_neg c12] at H
 have c12b0 : decide (x4_3 < x3_1) = false := decide_eq_false c12
 clear c12
 have H' := Aa.mk H
 clear H
 go_wp2
 repeat (go_quiet (fail); try go_wp2)
 go_roundg k3
 case measure => have := HK1.out; have := HJ2.out; have := HK3.out; omega
 case rel => exact ⟨_, (by first | rfl | (simp; done) | (simp [*]; done)), H', ⟨by have := HK1.out; have := HJ2.out; have := HK3.out; omega⟩, ⟨by repeat (first | (with_reducible first | exact HB.out | apply Ak | apply Ah | apply Aj) | exact HB.out)⟩⟩)))))))
 ·(
 rw [if_neg c2] at H
 have c2b0 : decide (x3_1 < (l0.length : Int)) = false := decide_eq_false c2
 clear c2
 by_cases c18 : (l0.length : Int) = 0
 ·(
 rw [if_pos c18] at H
 have c18b0 : ((l0.length : Int) == 0) = true := Dl c18
 have c18b1 : ((l0.length : Int) != 0) = false := Dk c18
 clear c18
 obtain rfl := Dp H
 go_wp2
 repeat (go_quiet (fail); try go_wp2)
 go_ret
 exact en_ HB)
 ·(
 rw [if_neg c18] at H
 have c18b0 : ((l0.length : Int) == 0) = false := Dj c18
 have c18b1 : ((l0.length : Int) != 0) = true := Dm c18
 have c18b2 : ¬ (l0 = []) := fun h_ => c18 (by rw [h_]; rfl)
 by_cases c19 : (l0.length : Int) > 6
 ·(
 rw [if_pos c19] at H
 have c19b0 : decide (6 < (l0.length : Int)) = true := decide_eq_true c19
 have c19b1 : decide (6 < l0.length) = true := decide_eq_true (by omega)
 clear c19
 obtain rfl := Dp H
 go_wp2
 repeat (go_quiet (fail); try go_wp2)
 go_ret
 exact en_ HB)
 ·(
 rw [if_neg c19] at H
 have c19b0 : decide (6 < (l0.length : Int)) = false := decide_eq_false c19
 have c19b1 : decide (6 < l0.length) = false := decide_eq_false (by omega)
 clear c19
 obtain rfl := Dp H
 go_wp2
 repeat (go_quiet (fail); try go_wp2)
 go_ret
 exact en_ HB)))))
theorem rd64_get (l : List S64) (i : Nat) (h : i < l.length) : Bj l (i : Int) = l[i] := by
 simp [Bj, List.getD_eq_getElem?_getD, List.getElem?_eq_getElem h]
theorem check12 (l : List S64) (hl : l.length ≤ 9223372036854775806) (hs : ∀ y, y ∈ l → y.f0.size ≤ 9223372036854775806) : TotP (fun r => r = checkE l) (fun k => Ap.f k l) := by
  have key : ∀ (n i : Nat), i + n = l.length → TotP (fun r => r = if colsOk (l.take i) (l.drop i) = true then (if l.length = 0 then 1 else if 6 < l.length then 4 else 0) else 1) (fun k => Ap.l0 k l (i : Int)) := by
    intro n
    induction n with
    | zero =>
      intro i hi
      refine TotP.succ (fun k => by simp only [Ap.l0]; rfl) ?_
      have e : l.drop i = [] := List.drop_eq_nil_of_le (by omega)
      rw [e]
      refine TotP.ite (fun h => absurd h (by omega)) (fun _ => ?_)
      refine TotP.ite (fun h => TotP.some_ (by rw [if_pos (by simp [colsOk]), if_pos (by omega)])) (fun h => ?_)
      refine TotP.ite (fun g => TotP.some_ (by rw [if_pos (by simp [colsOk]), if_neg (by omega), if_pos (by omega)])) (fun g => TotP.some_ (by rw [if_pos (by simp [colsOk]), if_neg (by omega), if_neg (by omega)]))
    | succ n ih =>
      intro i hi
      have hlt : i < l.length := by omega
      have hd : l.drop i = l[i] :: l.drop (i + 1) := List.drop_eq_getElem_cons hlt
      have ht : l.take i ++ [l[i]] = l.take (i + 1) := by simp
      have hstep : colsOk (l.take i) (l.drop i) = (colOk (l.take i) l[i] && colsOk (l.take (i + 1)) (l.drop (i + 1))) := by rw [hd, colsOk, ht]
      have l1k : ∀ (m j : Nat), j + m = i → (∀ y, y ∈ l.take j → ¬ y.f0.toList = l[i].f0.toList) → TotP (fun r => (r = 1 ∧ ∃ y, y ∈ l.take i ∧ y.f0.toList = l[i].f0.toList) ∨ ((∀ y, y ∈ l.take i → ¬ y.f0.toList = l[i].f0.toList) ∧ r = if colsOk (l.take (i + 1)) (l.drop (i + 1)) = true then (if l.length = 0 then 1 else if 6 < l.length then 4 else 0) else 1)) (fun k => Ap.l1 k l (i : Int) (j : Int)) := by
        intro m
        induction m with
        | zero =>
          intro j hj hall
          obtain rfl : j = i := by omega
          refine TotP.succ (fun k => by simp only [Ap.l1]; rfl) ?_
          refine TotP.ite (fun h => absurd h (by omega)) (fun _ => ?_)
          rw [wrap_in (by omega) (by omega), show (j : Int) + 1 = ((j + 1 : Nat) : Int) by omega]
          exact (ih (j + 1) (by omega)).weak (fun r hr => .inr ⟨hall, hr⟩)
        | succ m ihm =>
          intro j hj hall
          have hjl : j < l.length := by omega
          refine TotP.succ (fun k => by simp only [Ap.l1]; rfl) ?_
          refine TotP.ite (fun _ => ?_) (fun h => absurd (by omega) h)
          refine TotP.ite (fun _ => ?_) (fun h => absurd (by omega) h)
          refine TotP.ite (fun _ => ?_) (fun h => absurd (by omega) h)
          refine TotP.ite (fun _ => ?_) (fun h => absurd (by omega) h)
          refine TotP.ite (fun _ => ?_) (fun h => absurd (by omega) h)
          rw [rd64_get l j hjl, rd64_get l i hlt]
          refine TotP.ite (fun he => TotP.some_ (.inl ⟨rfl, l[j], ?_, he⟩)) (fun he => ?_)
          · exact List.mem_take_iff_getElem.2 ⟨j, by omega, rfl⟩
          · rw [wrap_in (by omega) (by omega), show (j : Int) + 1 = ((j + 1 : Nat) : Int) by omega]
            refine ihm (j + 1) (by omega) (fun y hy => ?_)
            rw [List.take_succ_eq_append_getElem hjl] at hy
            rcases List.mem_append.1 hy with hy | hy
            · exact hall y hy
            · rw [List.mem_singleton.1 hy]; exact he
      have j1f : ∀ b : Bool, colOk (l.take i) l[i] = (!b && !((l.take i).any fun y => y.f0.toList == l[i].f0.toList)) → TotP (fun r => r = if colsOk (l.take i) (l.drop i) = true then (if l.length = 0 then 1 else if 6 < l.length then 4 else 0) else 1) (fun k => Ap.j1 k l (i : Int) b) := by
        intro b hb
        refine TotP.succ (fun k => by simp only [Ap.j1]; rfl) ?_
        refine TotP.ite (fun h => TotP.some_ (by rw [hstep, hb, h]; simp)) (fun h => ?_)
        have hbf := Bool.eq_false_iff.2 h
        have := l1k i 0 (by omega) (by simp)
        refine (by simpa using this : TotP _ _).weak (fun r hr => ?_)
        rw [hstep, hb, hbf]
        rcases hr with ⟨h1, y, hy, hye⟩ | ⟨h1, h2⟩
        · have : ((l.take i).any fun y => y.f0.toList == l[i].f0.toList) = true := List.any_eq_true.2 ⟨y, hy, by simpa using hye⟩
          rw [this]; simpa using h1
        · have : ((l.take i).any fun y => y.f0.toList == l[i].f0.toList) = false := List.any_eq_false.2 (fun y hy => by simpa using h1 y hy)
          rw [this]; simpa using h2
      refine TotP.succ (fun k => by simp only [Ap.l0]; rfl) ?_
      refine TotP.ite (fun _ => ?_) (fun h => absurd (by omega) h)
      refine TotP.ite (fun _ => ?_) (fun h => absurd (by omega) h)
      rw [rd64_get l i hlt]
      refine TotP.bind (name12 _ (hs _ (List.getElem_mem hlt))) (fun nm hnm => ?_)
      subst hnm
      refine TotP.ite (fun hn => ?_) (fun hn => j1f true (by unfold colOk; rw [Bool.eq_false_iff.2 hn]; simp))
      refine TotP.ite (fun g => j1f true (by unfold colOk; have : ¬ (1 ≤ l[i].f1) := by omega
                                             simp [this])) (fun g => j1f _ ?_)
      unfold colOk
      by_cases g3 : l[i].f1 ≤ 3
      · have e1 : 1 ≤ l[i].f1 := by omega
        have e2 : ¬ l[i].f1 > 3 := by omega
        simp [hn, e1, e2, g3]
      · have e2 : l[i].f1 > 3 := by omega
        simp [hn, e2, g3]
  have := key l.length 0 (by omega)
  unfold Ap.f
  refine (by simpa using this : TotP _ _).weak (fun r hr => ?_)
  rw [hr]
  unfold checkE
  by_cases h0 : l = []
  · subst h0; simp [colsOk]
  · have : ¬ l.length = 0 := fun e => h0 (List.eq_nil_of_length_eq_zero e)
    simp [this, h0]
def Ay.l0 : Nat → List (S64) → ByteArray → Int → Option (Int)
 | 0, _, _, _ => none
 | k + 1, x0, x1, x5 => if x5 < (x0.length : Int) then (if 0 ≤ x5 then (if ((Bj x0 x5).f0).toList = x1.toList then (some x5) else (Ay.l0 k x0 x1 (wrap64 (x5 + 1)))) else (none)) else (some (-1))
def Ay.f (k : Nat) (l0 : List (S64)) (a1 : ByteArray) : Option (Int) := Ay.l0 k l0 a1 0
theorem Ay.mono_l : ∀ k, (∀ y0 y1 y2, LeO (Ay.l0 k y0 y1 y2) (Ay.l0 (k + 1) y0 y1 y2))
 | 0 => fun _ _ _ r h => by simp [Ay.l0] at h
 | k + 1 => by
  have ih0 := Ay.mono_l k
  ·intro y0 y1 y2
   unfold Ay.l0
   repeat' first|(with_reducible first|exact ih0 _ _ _|exact LeO.refl _|exact LeO.none _|refine LeO.ite ?_ ?_|refine LeO.bind ?_ fun _=>?_)|exact ih0 _ _ _|exact LeO.none _|refine LeO.ite ?_ ?_|refine LeO.bind ?_ fun _=>?_
theorem Ay.mono : ∀ a0 a1 k, LeO (Ay.f k a0 a1) (Ay.f (k + 1) a0 a1) := by
 intro a0 a1 k
 have ih0 := Ay.mono_l k
 unfold Ay.f
 repeat' first|(with_reducible first|exact ih0 _ _ _|exact LeO.refl _|exact LeO.none _|refine LeO.ite ?_ ?_|refine LeO.bind ?_ fun _=>?_)|exact ih0 _ _ _|exact LeO.none _|refine LeO.ite ?_ ?_|refine LeO.bind ?_ fun _=>?_
theorem Ay.calls (k : Nat) (A0 : Option Addr) (c0 : Nat) (l0 : List (S64)) (a1 : ByteArray) (r : Int) (w : World) (hr0 : Kd.C k64 w A0 l0.length l0) (hc0 : l0.length ≤ c0) (h : Ay.f k l0 a1 = some r) :
  Calls Try.prog 36 #[.slice A0 l0.length c0, .string a1] w fun e w' => e = .returned (.int .i64 r) ∧ Bp w w' := by
 have HR0 := Aa.mk hr0
 have HC0 := Aa.mk hc0
 clear hr0 hc0
 have H : (Ay.l0 k l0 a1 0) = some r := h
 clear h
 have H' := Aa.mk H
 clear H
 go_enter Try.func36, Try.ntmps36
 go_wp2
 go_loopg [5] k (fun kq v5 w' => ∃ (x5_1 : Int), v5 = .int .i64 x5_1 ∧ Aa (Ay.l0 kq l0 a1 x5_1 = some r) ∧ Aa (kq ≤ k) ∧ Bp w w')
 case atStart => exact ⟨_, (by first | rfl | (simp; done) | (simp [*]; done)), H', ⟨Nat.le_refl _⟩, by repeat (first | exact Bp.refl _ | apply Bp.step)⟩
 case round =>(
 clear H'
 obtain ⟨x5_1, rfl, HA, HK1, ⟨m1, rfl⟩⟩ := hrel
 cases gk with
 | zero => exact absurd HA.out (by simp [Ay.l0])
 | succ k1 =>(
 have H := HA.out
 clear HA
 simp only [Ay.l0] at H
 by_cases c3 : x5_1 < (l0.length : Int)
 ·(
 rw [if_pos c3] at H
 have c3b0 : decide (x5_1 < (l0.length : Int)) = true := decide_eq_true c3
 clear c3
 by_cases c4 : 0 ≤ x5_1
 ·(
 rw [if_pos c4] at H
 have c4b0 : decide (0 ≤ x5_1) = true := decide_eq_true c4
 clear c4
 by_cases c5 : ((Bj l0 x5_1).f0).toList = a1.toList
 ·(
 rw [if_pos c5] at H
 have c5b0 : (((Bj l0 x5_1).f0).toList == a1.toList) = true := Dl c5
 have c5b1 : (((Bj l0 x5_1).f0).toList != a1.toList) = false := Dk c5
 clear c5
 obtain rfl := Dp H
 have p286 : 0 ≤ (x5_1 : Int) := dt_
 have q286 : x5_1 < (l0.length : Int) := dt_
 obtain ⟨ad286, e286, hx286_0, hx286_1, hx286_2⟩ := at_T64 HR0.out x5_1 p286 q286
 cases e286
 replace p286 := eq_true p286
 replace q286 := eq_true q286
 go_wp2
 go_ret
 exact ⟨by first | rfl | (simp; done) | (simp [*]; done), by repeat (first | exact Bp.refl _ | apply Bp.step)⟩)
 ·(
 rw [if_neg c5] at H
 have c5b0 : (((Bj l0 x5_1).f0).toList == a1.toList) = false := Dj c5
 have c5b1 : (((Bj l0 x5_1).f0).toList != a1.toList) = true := Dm c5
 have H' := Aa.mk H
 clear H
 have p286 : 0 ≤ (x5_1 : Int) := dt_
 have q286 : x5_1 < (l0.length : Int) := dt_
 obtain ⟨ad286, e286, hx286_0, hx286_1, hx286_2⟩ := at_T64 HR0.out x5_1 p286 q286
 cases e286
 replace p286 := eq_true p286
 replace q286 := eq_true q286
 go_wp2
 go_roundg k1
 case measure => have := HK1.out; omega
 case rel => exact ⟨_, (by first | rfl | (simp; done) | (simp [*]; done)), H', ⟨by have := HK1.out; omega⟩, by repeat (first | exact Bp.refl _ | apply Bp.step)⟩))
 ·(
 rw [if_neg c4] at H
 exact absurd H (by simp)))
 ·(
 rw [if_neg c3] at H
 have c3b0 : decide (x5_1 < (l0.length : Int)) = false := decide_eq_false c3
 clear c3
 obtain rfl := Dp H
 go_wp2
 go_ret
 exact ⟨by first | rfl | (simp; done) | (simp [*]; done), by repeat (first | exact Bp.refl _ | apply Bp.step)⟩)))
end Go.Proofs.Ytdedmhmomoejkaa.X
