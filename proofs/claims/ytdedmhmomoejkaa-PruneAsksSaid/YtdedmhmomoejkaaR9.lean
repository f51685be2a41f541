/- Words and walks for pruneAsks_holds, part 9 of the texts that a program of this session laid together. -/
import Derived.Test.YtdedmhmomoejkaaR1
import Derived.Test.YtdedmhmomoejkaaR7
import Derived.Test.YtdedmhmomoejkaaR8
namespace Go.Proofs.Ytdedmhmomoejkaa.X
open Go.RowKit Go.Proofs.YtdedmhmomoejkaaW.PrintWords Go.Proofs.YtdedmhmomoejkaaW.PrintLast Go.Proofs.YtdedmhmomoejkaaW.PrintMore
attribute [local go_sem] max2_int max_two
set_option linter.unusedVariables false
set_option linter.unusedSimpArgs false
mutual
def firkinref17_one.j1 : Nat → Int → ByteArray → Int → Bool → Int → ByteArray → Int → ByteArray → List (S27) → Int → ByteArray → Int → Bool → Int → ByteArray → Int → ByteArray → Int → ByteArray → Int → Bool → Int → ByteArray → Int → ByteArray → Option (Bool)
 | 0, _, _, _, _, _, _, _, _, _, _, _, _, _, _, _, _, _, _, _, _, _, _, _, _, _ => none
 | k + 1, x266000, x266001, x266002, x266003, x266004, x266005, x266006, x266007, x266008, x267000, x267001, x267002, x267003, x267004, x267005, x267006, x267007, x268000, x268001, x268002, x268003, x268004, x268005, x268006, x268007 => if x266000 < 5 then (if (x266008.length : Int) > 0 then (firkinref17_one.j2 k true x266000 x266001 x266002 x266003 x266004 x266005 x266006 x266007 x266008) else ((firkinref17_flat.f x267000 x267001 x267002 x267003 x267004 x267005 x267006 x267007 ([] : List (S27)) x268000 x268001 x268002 x268003 x268004 x268005 x268006 x268007 ([] : List (S27))).bind fun t272 => (firkinref17_one.j2 k (!t272) x266000 x266001 x266002 x266003 x266004 x266005 x266006 x266007 x266008))) else ((firkinref17_flat.f x267000 x267001 x267002 x267003 x267004 x267005 x267006 x267007 ([] : List (S27)) x268000 x268001 x268002 x268003 x268004 x268005 x268006 x268007 ([] : List (S27))).bind fun t273 => (firkinref17_one.j2 k (!t273) x266000 x266001 x266002 x266003 x266004 x266005 x266006 x266007 x266008))
def firkinref17_one.j2 : Nat → Bool → Int → ByteArray → Int → Bool → Int → ByteArray → Int → ByteArray → List (S27) → Option (Bool)
 | 0, _, _, _, _, _, _, _, _, _, _ => none
 | k + 1, x107, x266000, x266001, x266002, x266003, x266004, x266005, x266006, x266007, x266008 => if x107 = true then (some false) else (firkinref17_one.l0 k 0 x266000 x266001 x266002 x266003 x266004 x266005 x266006 x266007 x266008)
def firkinref17_one.l0 : Nat → Int → Int → ByteArray → Int → Bool → Int → ByteArray → Int → ByteArray → List (S27) → Option (Bool)
 | 0, _, _, _, _, _, _, _, _, _, _ => none
 | k + 1, x5, x266000, x266001, x266002, x266003, x266004, x266005, x266006, x266007, x266008 => if x5 < (x266008.length : Int) then (if 0 ≤ x5 then ((firkinref17_one.f k ((rd_T27 x266008 x5).f0) ((rd_T27 x266008 x5).f1) ((rd_T27 x266008 x5).f2) ((rd_T27 x266008 x5).f3.f0) ((rd_T27 x266008 x5).f3.f1) ((rd_T27 x266008 x5).f3.f2) ((rd_T27 x266008 x5).f4) ((rd_T27 x266008 x5).f5) ((rd_T27 x266008 x5).f6)).bind fun t275 => (if t275 = true then (if x266000 ≥ 6 then (if ((rd_T27 x266008 x5).f0) = x266000 then (some false) else (firkinref17_one.l0 k (wrap64 (x5 + 1)) x266000 x266001 x266002 x266003 x266004 x266005 x266006 x266007 x266008)) else (firkinref17_one.l0 k (wrap64 (x5 + 1)) x266000 x266001 x266002 x266003 x266004 x266005 x266006 x266007 x266008)) else (some false))) else (none)) else (some true)
def firkinref17_one.j0 : Nat → Bool → Int → ByteArray → Int → Bool → Int → ByteArray → Int → ByteArray → List (S27) → Int → ByteArray → Int → Bool → Int → ByteArray → Int → ByteArray → Int → ByteArray → Int → Bool → Int → ByteArray → Int → ByteArray → Option (Bool)
 | 0, _, _, _, _, _, _, _, _, _, _, _, _, _, _, _, _, _, _, _, _, _, _, _, _, _, _ => none
 | k + 1, x86, x266000, x266001, x266002, x266003, x266004, x266005, x266006, x266007, x266008, x267000, x267001, x267002, x267003, x267004, x267005, x267006, x267007, x268000, x268001, x268002, x268003, x268004, x268005, x268006, x268007 => if x86 = true then (if (x266008.length : Int) < 2 then (some false) else (firkinref17_one.j1 k x266000 x266001 x266002 x266003 x266004 x266005 x266006 x266007 x266008 x267000 x267001 x267002 x267003 x267004 x267005 x267006 x267007 x268000 x268001 x268002 x268003 x268004 x268005 x268006 x268007)) else (some false)
def firkinref17_one.f : Nat → Int → ByteArray → Int → Bool → Int → ByteArray → Int → ByteArray → List (S27) → Option (Bool)
 | 0, _, _, _, _, _, _, _, _, _ => none
 | k + 1, a0_0, a0_1, a0_2, a0_3, a0_4, a0_5, a0_6, a0_7, l0_8 => if a0_0 = 1 then (firkinref17_one.j1 k a0_0 a0_1 a0_2 a0_3 a0_4 a0_5 a0_6 a0_7 l0_8 a0_0 a0_1 a0_2 a0_3 a0_4 a0_5 a0_6 a0_7 a0_0 (⟨#[]⟩ : ByteArray) 0 false 0 (⟨#[]⟩ : ByteArray) 0 (⟨#[]⟩ : ByteArray)) else (if a0_0 = 2 then ((firkinref12_Name.f k a0_1).bind fun t268 => (if t268 = true then (if a0_2 < 1 then (some false) else (if a0_2 > 6 then (some false) else ((firkinref09_May.f k a0_6 false a0_3 a0_4 a0_5).bind fun t269 => (if t269 = true then (firkinref17_one.j1 k a0_0 a0_1 a0_2 a0_3 a0_4 a0_5 a0_6 a0_7 l0_8 a0_0 a0_1 a0_2 a0_3 a0_4 a0_5 a0_6 a0_7 a0_0 a0_1 a0_2 a0_3 a0_4 a0_5 a0_6 (⟨#[]⟩ : ByteArray)) else (some false))))) else (some false))) else (if a0_0 = 3 then ((firkinref12_Name.f k a0_1).bind fun t270 => (if t270 = true then (firkinref17_one.j1 k a0_0 a0_1 a0_2 a0_3 a0_4 a0_5 a0_6 a0_7 l0_8 a0_0 a0_1 a0_2 a0_3 a0_4 a0_5 a0_6 a0_7 a0_0 a0_1 0 false 0 (⟨#[]⟩ : ByteArray) 0 (⟨#[]⟩ : ByteArray)) else (some false))) else (if a0_0 = 4 then ((firkinref12_Name.f k a0_1).bind fun t271 => (if t271 = true then (if (a0_7.size : Int) > 40 then (some false) else (firkinref17_one.j1 k a0_0 a0_1 a0_2 a0_3 a0_4 a0_5 a0_6 a0_7 l0_8 a0_0 a0_1 a0_2 a0_3 a0_4 a0_5 a0_6 a0_7 a0_0 a0_1 0 false 0 (⟨#[]⟩ : ByteArray) 0 a0_7)) else (some false))) else (if a0_0 = 5 then (if (l0_8.length : Int) = 1 then (firkinref17_one.j1 k a0_0 a0_1 a0_2 a0_3 a0_4 a0_5 a0_6 a0_7 l0_8 a0_0 a0_1 a0_2 a0_3 a0_4 a0_5 a0_6 a0_7 a0_0 (⟨#[]⟩ : ByteArray) 0 false 0 (⟨#[]⟩ : ByteArray) 0 (⟨#[]⟩ : ByteArray)) else (some false)) else (if a0_0 = 6 then (firkinref17_one.j0 k (a0_0 == 6) a0_0 a0_1 a0_2 a0_3 a0_4 a0_5 a0_6 a0_7 l0_8 a0_0 a0_1 a0_2 a0_3 a0_4 a0_5 a0_6 a0_7 a0_0 (⟨#[]⟩ : ByteArray) 0 false 0 (⟨#[]⟩ : ByteArray) 0 (⟨#[]⟩ : ByteArray)) else (firkinref17_one.j0 k (a0_0 == 7) a0_0 a0_1 a0_2 a0_3 a0_4 a0_5 a0_6 a0_7 l0_8 a0_0 a0_1 a0_2 a0_3 a0_4 a0_5 a0_6 a0_7 a0_0 (⟨#[]⟩ : ByteArray) 0 false 0 (⟨#[]⟩ : ByteArray) 0 (⟨#[]⟩ : ByteArray)))))))
end
theorem firkinref17_one.mono_l : ∀ k, (∀ y0 y1 y2 y3 y4 y5 y6 y7 y8, LeO (firkinref17_one.f k y0 y1 y2 y3 y4 y5 y6 y7 y8) (firkinref17_one.f (k + 1) y0 y1 y2 y3 y4 y5 y6 y7 y8)) ∧ (∀ y0 y1 y2 y3 y4 y5 y6 y7 y8 y9 y10 y11 y12 y13 y14 y15 y16 y17 y18 y19 y20 y21 y22 y23 y24, LeO (firkinref17_one.j1 k y0 y1 y2 y3 y4 y5 y6 y7 y8 y9 y10 y11 y12 y13 y14 y15 y16 y17 y18 y19 y20 y21 y22 y23 y24) (firkinref17_one.j1 (k + 1) y0 y1 y2 y3 y4 y5 y6 y7 y8 y9 y10 y11 y12 y13 y14 y15 y16 y17 y18 y19 y20 y21 y22 y23 y24)) ∧ (∀ y0 y1 y2 y3 y4 y5 y6 y7 y8 y9, LeO (firkinref17_one.j2 k y0 y1 y2 y3 y4 y5 y6 y7 y8 y9) (firkinref17_one.j2 (k + 1) y0 y1 y2 y3 y4 y5 y6 y7 y8 y9)) ∧ (∀ y0 y1 y2 y3 y4 y5 y6 y7 y8 y9, LeO (firkinref17_one.l0 k y0 y1 y2 y3 y4 y5 y6 y7 y8 y9) (firkinref17_one.l0 (k + 1) y0 y1 y2 y3 y4 y5 y6 y7 y8 y9)) ∧ (∀ y0 y1 y2 y3 y4 y5 y6 y7 y8 y9 y10 y11 y12 y13 y14 y15 y16 y17 y18 y19 y20 y21 y22 y23 y24 y25, LeO (firkinref17_one.j0 k y0 y1 y2 y3 y4 y5 y6 y7 y8 y9 y10 y11 y12 y13 y14 y15 y16 y17 y18 y19 y20 y21 y22 y23 y24 y25) (firkinref17_one.j0 (k + 1) y0 y1 y2 y3 y4 y5 y6 y7 y8 y9 y10 y11 y12 y13 y14 y15 y16 y17 y18 y19 y20 y21 y22 y23 y24 y25))
 | 0 => ⟨fun _ _ _ _ _ _ _ _ _ r h => by simp [firkinref17_one.f] at h, fun _ _ _ _ _ _ _ _ _ _ _ _ _ _ _ _ _ _ _ _ _ _ _ _ _ r h => by simp [firkinref17_one.j1] at h, fun _ _ _ _ _ _ _ _ _ _ r h => by simp [firkinref17_one.j2] at h, fun _ _ _ _ _ _ _ _ _ _ r h => by simp [firkinref17_one.l0] at h, fun _ _ _ _ _ _ _ _ _ _ _ _ _ _ _ _ _ _ _ _ _ _ _ _ _ _ r h => by simp [firkinref17_one.j0] at h⟩
 | k + 1 => by
  obtain ⟨ih0, ih1, ih2, ih3, ih4⟩ := firkinref17_one.mono_l k
  refine ⟨?_, ?_, ?_, ?_, ?_⟩
  ·intro y0 y1 y2 y3 y4 y5 y6 y7 y8
   unfold firkinref17_one.f
   repeat' first
   | (with_reducible exact ih0 _ _ _ _ _ _ _ _ _)
   | (with_reducible exact ih1 _ _ _ _ _ _ _ _ _ _ _ _ _ _ _ _ _ _ _ _ _ _ _ _ _)
   | (with_reducible exact ih2 _ _ _ _ _ _ _ _ _ _)
   | (with_reducible exact ih3 _ _ _ _ _ _ _ _ _ _)
   | (with_reducible exact ih4 _ _ _ _ _ _ _ _ _ _ _ _ _ _ _ _ _ _ _ _ _ _ _ _ _ _)
   | (with_reducible exact firkinref09_May.mono _ _ _ _ _ _)
   | (with_reducible exact firkinref12_Name.mono _ _)
   | (with_reducible exact LeO.refl _)
   | (with_reducible exact LeO.none _)
   | (with_reducible refine LeO.ite ?_ ?_)
   | (with_reducible refine LeO.bind ?_ (fun _ => ?_))
   | exact ih0 _ _ _ _ _ _ _ _ _
   | exact ih1 _ _ _ _ _ _ _ _ _ _ _ _ _ _ _ _ _ _ _ _ _ _ _ _ _
   | exact ih2 _ _ _ _ _ _ _ _ _ _
   | exact ih3 _ _ _ _ _ _ _ _ _ _
   | exact ih4 _ _ _ _ _ _ _ _ _ _ _ _ _ _ _ _ _ _ _ _ _ _ _ _ _ _
   | exact firkinref09_May.mono _ _ _ _ _ _
   | exact firkinref12_Name.mono _ _
   | exact LeO.none _
   | refine LeO.ite ?_ ?_
   | refine LeO.bind ?_ (fun _ => ?_)
  ·intro y0 y1 y2 y3 y4 y5 y6 y7 y8 y9 y10 y11 y12 y13 y14 y15 y16 y17 y18 y19 y20 y21 y22 y23 y24
   unfold firkinref17_one.j1
   repeat' first
   | (with_reducible exact ih0 _ _ _ _ _ _ _ _ _)
   | (with_reducible exact ih1 _ _ _ _ _ _ _ _ _ _ _ _ _ _ _ _ _ _ _ _ _ _ _ _ _)
   | (with_reducible exact ih2 _ _ _ _ _ _ _ _ _ _)
   | (with_reducible exact ih3 _ _ _ _ _ _ _ _ _ _)
   | (with_reducible exact ih4 _ _ _ _ _ _ _ _ _ _ _ _ _ _ _ _ _ _ _ _ _ _ _ _ _ _)
   | (with_reducible exact firkinref09_May.mono _ _ _ _ _ _)
   | (with_reducible exact firkinref12_Name.mono _ _)
   | (with_reducible exact LeO.refl _)
   | (with_reducible exact LeO.none _)
   | (with_reducible refine LeO.ite ?_ ?_)
   | (with_reducible refine LeO.bind ?_ (fun _ => ?_))
   | exact ih0 _ _ _ _ _ _ _ _ _
   | exact ih1 _ _ _ _ _ _ _ _ _ _ _ _ _ _ _ _ _ _ _ _ _ _ _ _ _
   | exact ih2 _ _ _ _ _ _ _ _ _ _
   | exact ih3 _ _ _ _ _ _ _ _ _ _
   | exact ih4 _ _ _ _ _ _ _ _ _ _ _ _ _ _ _ _ _ _ _ _ _ _ _ _ _ _
   | exact firkinref09_May.mono _ _ _ _ _ _
   | exact firkinref12_Name.mono _ _
   | exact LeO.none _
   | refine LeO.ite ?_ ?_
   | refine LeO.bind ?_ (fun _ => ?_)
  ·intro y0 y1 y2 y3 y4 y5 y6 y7 y8 y9
   unfold firkinref17_one.j2
   repeat' first
   | (with_reducible exact ih0 _ _ _ _ _ _ _ _ _)
   | (with_reducible exact ih1 _ _ _ _ _ _ _ _ _ _ _ _ _ _ _ _ _ _ _ _ _ _ _ _ _)
   | (with_reducible exact ih2 _ _ _ _ _ _ _ _ _ _)
   | (with_reducible exact ih3 _ _ _ _ _ _ _ _ _ _)
   | (with_reducible exact ih4 _ _ _ _ _ _ _ _ _ _ _ _ _ _ _ _ _ _ _ _ _ _ _ _ _ _)
   | (with_reducible exact firkinref09_May.mono _ _ _ _ _ _)
   | (with_reducible exact firkinref12_Name.mono _ _)
   | (with_reducible exact LeO.refl _)
   | (with_reducible exact LeO.none _)
   | (with_reducible refine LeO.ite ?_ ?_)
   | (with_reducible refine LeO.bind ?_ (fun _ => ?_))
   | exact ih0 _ _ _ _ _ _ _ _ _
   | exact ih1 _ _ _ _ _ _ _ _ _ _ _ _ _ _ _ _ _ _ _ _ _ _ _ _ _
   | exact ih2 _ _ _ _ _ _ _ _ _ _
   | exact ih3 _ _ _ _ _ _ _ _ _ _
   | exact ih4 _ _ _ _ _ _ _ _ _ _ _ _ _ _ _ _ _ _ _ _ _ _ _ _ _ _
   | exact firkinref09_May.mono _ _ _ _ _ _
   | exact firkinref12_Name.mono _ _
   | exact LeO.none _
   | refine LeO.ite ?_ ?_
   | refine LeO.bind ?_ (fun _ => ?_)
  ·intro y0 y1 y2 y3 y4 y5 y6 y7 y8 y9
   unfold firkinref17_one.l0
   repeat' first
   | (with_reducible exact ih0 _ _ _ _ _ _ _ _ _)
   | (with_reducible exact ih1 _ _ _ _ _ _ _ _ _ _ _ _ _ _ _ _ _ _ _ _ _ _ _ _ _)
   | (with_reducible exact ih2 _ _ _ _ _ _ _ _ _ _)
   | (with_reducible exact ih3 _ _ _ _ _ _ _ _ _ _)
   | (with_reducible exact ih4 _ _ _ _ _ _ _ _ _ _ _ _ _ _ _ _ _ _ _ _ _ _ _ _ _ _)
   | (with_reducible exact firkinref09_May.mono _ _ _ _ _ _)
   | (with_reducible exact firkinref12_Name.mono _ _)
   | (with_reducible exact LeO.refl _)
   | (with_reducible exact LeO.none _)
   | (with_reducible refine LeO.ite ?_ ?_)
   | (with_reducible refine LeO.bind ?_ (fun _ => ?_))
   | exact ih0 _ _ _ _ _ _ _ _ _
   | exact ih1 _ _ _ _ _ _ _ _ _ _ _ _ _ _ _ _ _ _ _ _ _ _ _ _ _
   | exact ih2 _ _ _ _ _ _ _ _ _ _
   | exact ih3 _ _ _ _ _ _ _ _ _ _
   | exact ih4 _ _ _ _ _ _ _ _ _ _ _ _ _ _ _ _ _ _ _ _ _ _ _ _ _ _
   | exact firkinref09_May.mono _ _ _ _ _ _
   | exact firkinref12_Name.mono _ _
   | exact LeO.none _
   | refine LeO.ite ?_ ?_
   | refine LeO.bind ?_ (fun _ => ?_)
  ·intro y0 y1 y2 y3 y4 y5 y6 y7 y8 y9 y10 y11 y12 y13 y14 y15 y16 y17 y18 y19 y20 y21 y22 y23 y24 y25
   unfold firkinref17_one.j0
   repeat' first
   | (with_reducible exact ih0 _ _ _ _ _ _ _ _ _)
   | (with_reducible exact ih1 _ _ _ _ _ _ _ _ _ _ _ _ _ _ _ _ _ _ _ _ _ _ _ _ _)
   | (with_reducible exact ih2 _ _ _ _ _ _ _ _ _ _)
   | (with_reducible exact ih3 _ _ _ _ _ _ _ _ _ _)
   | (with_reducible exact ih4 _ _ _ _ _ _ _ _ _ _ _ _ _ _ _ _ _ _ _ _ _ _ _ _ _ _)
   | (with_reducible exact firkinref09_May.mono _ _ _ _ _ _)
   | (with_reducible exact firkinref12_Name.mono _ _)
   | (with_reducible exact LeO.refl _)
   | (with_reducible exact LeO.none _)
   | (with_reducible refine LeO.ite ?_ ?_)
   | (with_reducible refine LeO.bind ?_ (fun _ => ?_))
   | exact ih0 _ _ _ _ _ _ _ _ _
   | exact ih1 _ _ _ _ _ _ _ _ _ _ _ _ _ _ _ _ _ _ _ _ _ _ _ _ _
   | exact ih2 _ _ _ _ _ _ _ _ _ _
   | exact ih3 _ _ _ _ _ _ _ _ _ _
   | exact ih4 _ _ _ _ _ _ _ _ _ _ _ _ _ _ _ _ _ _ _ _ _ _ _ _ _ _
   | exact firkinref09_May.mono _ _ _ _ _ _
   | exact firkinref12_Name.mono _ _
   | exact LeO.none _
   | refine LeO.ite ?_ ?_
   | refine LeO.bind ?_ (fun _ => ?_)
theorem firkinref17_one.mono : ∀ a0 a1 a2 a3 a4 a5 a6 a7 a8 k, LeO (firkinref17_one.f k a0 a1 a2 a3 a4 a5 a6 a7 a8) (firkinref17_one.f (k + 1) a0 a1 a2 a3 a4 a5 a6 a7 a8) := by
 intro a0 a1 a2 a3 a4 a5 a6 a7 a8 k
 obtain ⟨ih0, ih1, ih2, ih3, ih4⟩ := firkinref17_one.mono_l k
 exact ih0 a0 a1 a2 a3 a4 a5 a6 a7 a8
def firkinref17_one.T31 : Bool × List (List Nat × List Nat) := (true, [([], []), ([0], [0]), ([], []), ([1, 2], [1, 2]), ([3], [3]), ([4], [4]), ([5], [5]), ([6, 5], [6]), ([7], [7]), ([8, 7], [7, 8]), ([9, 7], [7, 9]), ([10, 7, 7], [7, 10]), ([11], [11]), ([12, 11], [11, 12]), ([11], [11]), ([13, 14, 11], [11, 13, 14]), ([15, 11], [11, 15]), ([16, 11], [11, 16]), ([11], [11]), ([18, 11], [11, 18]), ([17, 19, 11], [11, 17, 19]), ([11, 20, 7], [7, 11, 20]), ([7, 21], [7, 21])])
def firkinref17_one.B31 : List Nat := [0, 1, 0, 7, 15, 31, 63, 127, 255, 511, 1023, 2047, 4095, 8191, 4095, 32767, 65535, 131071, 4095, 266239, 1048575, 2097151, 4194303]
theorem firkinref17_one.tab31 : rtab .any (opsOf Try.f78 31) = firkinref17_one.T31 := by kernel_rfl
theorem firkinref17_one.bits31 : waitsOk firkinref17_one.T31.2 firkinref17_one.B31 = true := by kernel_rfl
set_option maxHeartbeats 8000000 in
set_option maxRecDepth 100000 in
theorem firkinref17_one.calls (k : Nat) : ∀ (a0_0 : Int) (a0_1 : ByteArray) (a0_2 : Int) (a0_3 : Bool) (a0_4 : Int) (a0_5 : ByteArray) (a0_6 : Int) (a0_7 : ByteArray) (A0_8 : Option Addr) (c0_8 : Nat) (l0_8 : List (S27)) (r : Bool) (w : World) (hr0_8 : Kd.C k27 w A0_8 l0_8.length l0_8) (hc0_8 : l0_8.length ≤ c0_8) (h : firkinref17_one.f k a0_0 a0_1 a0_2 a0_3 a0_4 a0_5 a0_6 a0_7 l0_8 = some r),
  Calls Try.prog 78 #[.agg #[.int .i64 a0_0, .string a0_1, .int .i64 a0_2, .bool a0_3, .int .i64 a0_4, .string a0_5, .int .i64 a0_6, .string a0_7, .slice A0_8 l0_8.length c0_8]] w fun e w' => e = .returned (.bool r) ∧ Below w.heap.size w w' := by
 induction k using Nat.strongRecOn with
 | _ k ih =>
 intro a0_0 a0_1 a0_2 a0_3 a0_4 a0_5 a0_6 a0_7 A0_8 c0_8 l0_8 r w hr0_8 hc0_8 h
 cases k with
 | zero => exact absurd h (by simp [firkinref17_one.f])
 | succ k =>
 simp only [firkinref17_one.f] at h
 have hu27 := Try.underlying27
 have hu24 := Try.underlying24
 have HR0_8 := Aside0.mk hr0_8
 have HC0_8 := Aside0.mk hc0_8
 clear hr0_8 hc0_8
 have HB := Aside0.mk (Below.refl w.heap.size w)
 have H : (if a0_0 = 1 then (firkinref17_one.j1 k a0_0 a0_1 a0_2 a0_3 a0_4 a0_5 a0_6 a0_7 l0_8 a0_0 a0_1 a0_2 a0_3 a0_4 a0_5 a0_6 a0_7 a0_0 (⟨#[]⟩ : ByteArray) 0 false 0 (⟨#[]⟩ : ByteArray) 0 (⟨#[]⟩ : ByteArray)) else (if a0_0 = 2 then ((firkinref12_Name.f k a0_1).bind fun t268 => (if t268 = true then (if a0_2 < 1 then (some false) else (if a0_2 > 6 then (some false) else ((firkinref09_May.f k a0_6 false a0_3 a0_4 a0_5).bind fun t269 => (if t269 = true then (firkinref17_one.j1 k a0_0 a0_1 a0_2 a0_3 a0_4 a0_5 a0_6 a0_7 l0_8 a0_0 a0_1 a0_2 a0_3 a0_4 a0_5 a0_6 a0_7 a0_0 a0_1 a0_2 a0_3 a0_4 a0_5 a0_6 (⟨#[]⟩ : ByteArray)) else (some false))))) else (some false))) else (if a0_0 = 3 then ((firkinref12_Name.f k a0_1).bind fun t270 => (if t270 = true then (firkinref17_one.j1 k a0_0 a0_1 a0_2 a0_3 a0_4 a0_5 a0_6 a0_7 l0_8 a0_0 a0_1 a0_2 a0_3 a0_4 a0_5 a0_6 a0_7 a0_0 a0_1 0 false 0 (⟨#[]⟩ : ByteArray) 0 (⟨#[]⟩ : ByteArray)) else (some false))) else (if a0_0 = 4 then ((firkinref12_Name.f k a0_1).bind fun t271 => (if t271 = true then (if (a0_7.size : Int) > 40 then (some false) else (firkinref17_one.j1 k a0_0 a0_1 a0_2 a0_3 a0_4 a0_5 a0_6 a0_7 l0_8 a0_0 a0_1 a0_2 a0_3 a0_4 a0_5 a0_6 a0_7 a0_0 a0_1 0 false 0 (⟨#[]⟩ : ByteArray) 0 a0_7)) else (some false))) else (if a0_0 = 5 then (if (l0_8.length : Int) = 1 then (firkinref17_one.j1 k a0_0 a0_1 a0_2 a0_3 a0_4 a0_5 a0_6 a0_7 l0_8 a0_0 a0_1 a0_2 a0_3 a0_4 a0_5 a0_6 a0_7 a0_0 (⟨#[]⟩ : ByteArray) 0 false 0 (⟨#[]⟩ : ByteArray) 0 (⟨#[]⟩ : ByteArray)) else (some false)) else (if a0_0 = 6 then (firkinref17_one.j0 k (a0_0 == 6) a0_0 a0_1 a0_2 a0_3 a0_4 a0_5 a0_6 a0_7 l0_8 a0_0 a0_1 a0_2 a0_3 a0_4 a0_5 a0_6 a0_7 a0_0 (⟨#[]⟩ : ByteArray) 0 false 0 (⟨#[]⟩ : ByteArray) 0 (⟨#[]⟩ : ByteArray)) else (firkinref17_one.j0 k (a0_0 == 7) a0_0 a0_1 a0_2 a0_3 a0_4 a0_5 a0_6 a0_7 l0_8 a0_0 a0_1 a0_2 a0_3 a0_4 a0_5 a0_6 a0_7 a0_0 (⟨#[]⟩ : ByteArray) 0 false 0 (⟨#[]⟩ : ByteArray) 0 (⟨#[]⟩ : ByteArray)))))))) = some r := h
 clear h
 have HC2 := Aside0.mk H
 clear H
 go_enter Try.func78, Try.ntmps78
 go_upto_block 0 with (first | ((with_reducible refine gate_dst (N := 1) rfl ?_); (try (refine gate_guard (by rfl) ?_; dsimp only)); refine box_event ?hg (N := 1) ?hd (cs := #[.int .i64 a0_0, .string a0_1, .int .i64 a0_2, .bool a0_3, .int .i64 a0_4, .string a0_5, .int .i64 a0_6, .string a0_7, .slice A0_8 l0_8.length c0_8]) (t := 27) ?hr ?_; (case hd => rfl); (case hg => rfl); (case hr => first | (go_simp; done) | (go_simp; rfl)); intro gb265 hg w3 hbox hb; have n0_ := Aside0.mk (below_step (by repeat (first | (with_reducible first | exact HB.out | apply below_alloc | apply pw_below_drewN | apply below_drew1) | exact HB.out)) hb); have n1_ := Aside0.mk (hbox); have n2_ := Aside0.mk ((by rw [hg]; exact (below_size (by repeat (first | (with_reducible first | exact HB.out | apply below_alloc | apply pw_below_drewN | apply below_drew1) | exact HB.out))) : w.heap.size ≤ gb265)); have n3_ := Aside0.mk ((by rw [hg]; exact (below_size (by repeat (first | (with_reducible first | exact HB.out | apply below_alloc | apply pw_below_drewN | apply below_drew1) | exact HB.out))) : w.heap.size ≤ gb265)); clear HB; have HB := n0_; have BK265 := n1_; have GW265 := n2_; have GE265 := n3_; clear n0_ n1_ n2_ n3_; clear hb hbox hg; have C4_0 : w3.cell? ⟨gb265, 0, none⟩ = some (.int .i64 a0_0) := (blk_cell BK265.out 0).trans rfl; have C4_1 : w3.cell? ⟨gb265, 1, none⟩ = some (.string a0_1) := (blk_cell BK265.out 1).trans rfl; have C4_2 : w3.cell? ⟨gb265, 2, none⟩ = some (.int .i64 a0_2) := (blk_cell BK265.out 2).trans rfl; have C4_3 : w3.cell? ⟨gb265, 3, none⟩ = some (.bool a0_3) := (blk_cell BK265.out 3).trans rfl; have C4_4 : w3.cell? ⟨gb265, 4, none⟩ = some (.int .i64 a0_4) := (blk_cell BK265.out 4).trans rfl; have C4_5 : w3.cell? ⟨gb265, 5, none⟩ = some (.string a0_5) := (blk_cell BK265.out 5).trans rfl; have C4_6 : w3.cell? ⟨gb265, 6, none⟩ = some (.int .i64 a0_6) := (blk_cell BK265.out 6).trans rfl; have C4_7 : w3.cell? ⟨gb265, 7, none⟩ = some (.string a0_7) := (blk_cell BK265.out 7).trans rfl; have C4_8 : w3.cell? ⟨gb265, 8, none⟩ = some (.slice A0_8 l0_8.length c0_8) := (blk_cell BK265.out 8).trans rfl; have F4_0 := blk_frozen BK265.out 0; have F4_1 := blk_frozen BK265.out 1; have F4_2 := blk_frozen BK265.out 2; have F4_3 := blk_frozen BK265.out 3; have F4_4 := blk_frozen BK265.out 4; have F4_5 := blk_frozen BK265.out 5; have F4_6 := blk_frozen BK265.out 6; have F4_7 := blk_frozen BK265.out 7; have F4_8 := blk_frozen BK265.out 8) | ((with_reducible refine gate_dst (N := 3) rfl ?_); (try (refine gate_guard (by rfl) ?_; dsimp only)); refine box_event ?hg (N := 3) ?hd (cs := #[.int .i64 0, .string (⟨#[]⟩ : ByteArray), .int .i64 0, .bool false, .int .i64 0, .string (⟨#[]⟩ : ByteArray), .int .i64 0, .string (⟨#[]⟩ : ByteArray), .slice none 0 0]) (t := 27) ?hr ?_; (case hd => rfl); (case hg => rfl); (case hr => first | (go_simp; done) | (go_simp; rfl)); intro gb266 hg w5 hbox hb; have n0_ := Aside0.mk (blk_below (g := gb265) (o := .cells #[.int .i64 a0_0, .string a0_1, .int .i64 a0_2, .bool a0_3, .int .i64 a0_4, .string a0_5, .int .i64 a0_6, .string a0_7, .slice A0_8 l0_8.length c0_8] 27 (0, 0)) (by (with_reducible repeat (first | refine blk_drewN ?_ _ | refine blk_drew ?_ | refine blk_alloc ?_ _)); exact BK265.out) hb); have n1_ := Aside0.mk (below_step (by repeat (first | (with_reducible first | exact HB.out | apply below_alloc | apply pw_below_drewN | apply below_drew1 | refine below_set ?_ GE265.out) | exact HB.out)) hb); have n2_ := Aside0.mk (hbox); have n3_ := Aside0.mk ((by rw [hg]; exact (below_size (by repeat (first | (with_reducible first | exact HB.out | apply below_alloc | apply pw_below_drewN | apply below_drew1 | refine below_set ?_ GE265.out) | exact HB.out))) : w.heap.size ≤ gb266)); have n4_ := Aside0.mk ((by rw [hg]; exact (below_size (by repeat (first | (with_reducible first | exact HB.out | apply below_alloc | apply pw_below_drewN | apply below_drew1 | refine below_set ?_ GE265.out) | exact HB.out))) : w.heap.size ≤ gb266)); have n5_ := Aside0.mk ((by rw [hg]; exact Nat.ne_of_lt (blk_lt (g := gb265) (o := .cells #[.int .i64 a0_0, .string a0_1, .int .i64 a0_2, .bool a0_3, .int .i64 a0_4, .string a0_5, .int .i64 a0_6, .string a0_7, .slice A0_8 l0_8.length c0_8] 27 (0, 0)) (by (with_reducible repeat (first | refine blk_drewN ?_ _ | refine blk_drew ?_ | refine blk_alloc ?_ _)); exact BK265.out)) : gb265 ≠ gb266)); have n6_ := Aside0.mk ((by rw [hg]; exact Nat.ne_of_gt (blk_lt (g := gb265) (o := .cells #[.int .i64 a0_0, .string a0_1, .int .i64 a0_2, .bool a0_3, .int .i64 a0_4, .string a0_5, .int .i64 a0_6, .string a0_7, .slice A0_8 l0_8.length c0_8] 27 (0, 0)) (by (with_reducible repeat (first | refine blk_drewN ?_ _ | refine blk_drew ?_ | refine blk_alloc ?_ _)); exact BK265.out)) : gb266 ≠ gb265)); clear BK265; clear HB; have BK265 := n0_; have HB := n1_; have BK266 := n2_; have GW266 := n3_; have GE266 := n4_; have NB265_266 := n5_; have NB266_265 := n6_; clear n0_ n1_ n2_ n3_ n4_ n5_ n6_; clear hb hbox hg; have hnb6 := NB266_265.out; have hnc6 := NB265_266.out; have C7_0 : w5.cell? ⟨gb266, 0, none⟩ = some (.int .i64 0) := (blk_cell BK266.out 0).trans rfl; have C7_1 : w5.cell? ⟨gb266, 1, none⟩ = some (.string (⟨#[]⟩ : ByteArray)) := (blk_cell BK266.out 1).trans rfl; have C7_2 : w5.cell? ⟨gb266, 2, none⟩ = some (.int .i64 0) := (blk_cell BK266.out 2).trans rfl; have C7_3 : w5.cell? ⟨gb266, 3, none⟩ = some (.bool false) := (blk_cell BK266.out 3).trans rfl; have C7_4 : w5.cell? ⟨gb266, 4, none⟩ = some (.int .i64 0) := (blk_cell BK266.out 4).trans rfl; have C7_5 : w5.cell? ⟨gb266, 5, none⟩ = some (.string (⟨#[]⟩ : ByteArray)) := (blk_cell BK266.out 5).trans rfl; have C7_6 : w5.cell? ⟨gb266, 6, none⟩ = some (.int .i64 0) := (blk_cell BK266.out 6).trans rfl; have C7_7 : w5.cell? ⟨gb266, 7, none⟩ = some (.string (⟨#[]⟩ : ByteArray)) := (blk_cell BK266.out 7).trans rfl; have C7_8 : w5.cell? ⟨gb266, 8, none⟩ = some (.slice none 0 0) := (blk_cell BK266.out 8).trans rfl; have F7_0 := blk_frozen BK266.out 0; have F7_1 := blk_frozen BK266.out 1; have F7_2 := blk_frozen BK266.out 2; have F7_3 := blk_frozen BK266.out 3; have F7_4 := blk_frozen BK266.out 4; have F7_5 := blk_frozen BK266.out 5; have F7_6 := blk_frozen BK266.out 6; have F7_7 := blk_frozen BK266.out 7; have F7_8 := blk_frozen BK266.out 8; have C8_0 : w5.cell? ⟨gb265, 0, none⟩ = some (.int .i64 a0_0) := (blk_cell BK265.out 0).trans rfl; have C8_1 : w5.cell? ⟨gb265, 1, none⟩ = some (.string a0_1) := (blk_cell BK265.out 1).trans rfl; have C8_2 : w5.cell? ⟨gb265, 2, none⟩ = some (.int .i64 a0_2) := (blk_cell BK265.out 2).trans rfl; have C8_3 : w5.cell? ⟨gb265, 3, none⟩ = some (.bool a0_3) := (blk_cell BK265.out 3).trans rfl; have C8_4 : w5.cell? ⟨gb265, 4, none⟩ = some (.int .i64 a0_4) := (blk_cell BK265.out 4).trans rfl; have C8_5 : w5.cell? ⟨gb265, 5, none⟩ = some (.string a0_5) := (blk_cell BK265.out 5).trans rfl; have C8_6 : w5.cell? ⟨gb265, 6, none⟩ = some (.int .i64 a0_6) := (blk_cell BK265.out 6).trans rfl; have C8_7 : w5.cell? ⟨gb265, 7, none⟩ = some (.string a0_7) := (blk_cell BK265.out 7).trans rfl; have C8_8 : w5.cell? ⟨gb265, 8, none⟩ = some (.slice A0_8 l0_8.length c0_8) := (blk_cell BK265.out 8).trans rfl; have F8_0 := blk_frozen BK265.out 0; have F8_1 := blk_frozen BK265.out 1; have F8_2 := blk_frozen BK265.out 2; have F8_3 := blk_frozen BK265.out 3; have F8_4 := blk_frozen BK265.out 4; have F8_5 := blk_frozen BK265.out 5; have F8_6 := blk_frozen BK265.out 6; have F8_7 := blk_frozen BK265.out 7; have F8_8 := blk_frozen BK265.out 8) | ((with_reducible refine gate_dst (N := 4) rfl ?_); (try (refine gate_guard (by rfl) ?_; dsimp only)); refine box_event ?hg (N := 4) ?hd (cs := #[.int .i64 0, .string (⟨#[]⟩ : ByteArray), .int .i64 0, .bool false, .int .i64 0, .string (⟨#[]⟩ : ByteArray), .int .i64 0, .string (⟨#[]⟩ : ByteArray), .slice none 0 0]) (t := 27) ?hr ?_; (case hd => rfl); (case hg => rfl); (case hr => first | (go_simp; done) | (go_simp; rfl)); intro gb267 hg w9 hbox hb; have n0_ := Aside0.mk (blk_below (g := gb265) (o := .cells #[.int .i64 a0_0, .string a0_1, .int .i64 a0_2, .bool a0_3, .int .i64 a0_4, .string a0_5, .int .i64 a0_6, .string a0_7, .slice A0_8 l0_8.length c0_8] 27 (0, 0)) (by (iterate 10 ((with_reducible repeat (first | refine blk_drewN ?_ _ | refine blk_drew ?_ | refine blk_alloc ?_ _)); refine blk_far ?_ NB265_266.out _)); (with_reducible repeat (first | refine blk_drewN ?_ _ | refine blk_drew ?_ | refine blk_alloc ?_ _)); exact BK265.out) hb); have n1_ := Aside0.mk (blk_below (g := gb266) (o := .cells #[.int .i64 a0_0, .string a0_1, .int .i64 a0_2, .bool a0_3, .int .i64 a0_4, .string a0_5, .int .i64 a0_6, .string a0_7, .slice none 0 0] 27 (0, 0)) (by (with_reducible repeat (first | refine blk_drewN ?_ _ | refine blk_drew ?_ | refine blk_alloc ?_ _)); refine blk_put (cs := #[.int .i64 a0_0, .string a0_1, .int .i64 a0_2, .bool a0_3, .int .i64 a0_4, .string a0_5, .int .i64 a0_6, .string a0_7, .slice A0_8 l0_8.length c0_8]) ?_ 8 _ rfl; (with_reducible repeat (first | refine blk_drewN ?_ _ | refine blk_drew ?_ | refine blk_alloc ?_ _)); apply blk_all9_; (with_reducible repeat (first | refine blk_drewN ?_ _ | refine blk_drew ?_ | refine blk_alloc ?_ _)); exact BK266.out) hb); have n2_ := Aside0.mk (below_step (by repeat (first | (with_reducible first | exact HB.out | apply below_alloc | apply pw_below_drewN | apply below_drew1 | refine below_set ?_ GE265.out | refine below_set ?_ GE266.out) | exact HB.out)) hb); have n3_ := Aside0.mk (hbox); have n4_ := Aside0.mk ((by rw [hg]; exact (below_size (by repeat (first | (with_reducible first | exact HB.out | apply below_alloc | apply pw_below_drewN | apply below_drew1 | refine below_set ?_ GE265.out | refine below_set ?_ GE266.out) | exact HB.out))) : w.heap.size ≤ gb267)); have n5_ := Aside0.mk ((by rw [hg]; exact (below_size (by repeat (first | (with_reducible first | exact HB.out | apply below_alloc | apply pw_below_drewN | apply below_drew1 | refine below_set ?_ GE265.out | refine below_set ?_ GE266.out) | exact HB.out))) : w.heap.size ≤ gb267)); have n6_ := Aside0.mk ((by rw [hg]; exact Nat.ne_of_lt (blk_lt (g := gb265) (o := .cells #[.int .i64 a0_0, .string a0_1, .int .i64 a0_2, .bool a0_3, .int .i64 a0_4, .string a0_5, .int .i64 a0_6, .string a0_7, .slice A0_8 l0_8.length c0_8] 27 (0, 0)) (by (iterate 10 ((with_reducible repeat (first | refine blk_drewN ?_ _ | refine blk_drew ?_ | refine blk_alloc ?_ _)); refine blk_far ?_ NB265_266.out _)); (with_reducible repeat (first | refine blk_drewN ?_ _ | refine blk_drew ?_ | refine blk_alloc ?_ _)); exact BK265.out)) : gb265 ≠ gb267)); have n7_ := Aside0.mk ((by rw [hg]; exact Nat.ne_of_gt (blk_lt (g := gb265) (o := .cells #[.int .i64 a0_0, .string a0_1, .int .i64 a0_2, .bool a0_3, .int .i64 a0_4, .string a0_5, .int .i64 a0_6, .string a0_7, .slice A0_8 l0_8.length c0_8] 27 (0, 0)) (by (iterate 10 ((with_reducible repeat (first | refine blk_drewN ?_ _ | refine blk_drew ?_ | refine blk_alloc ?_ _)); refine blk_far ?_ NB265_266.out _)); (with_reducible repeat (first | refine blk_drewN ?_ _ | refine blk_drew ?_ | refine blk_alloc ?_ _)); exact BK265.out)) : gb267 ≠ gb265)); have n8_ := Aside0.mk ((by rw [hg]; exact Nat.ne_of_lt (blk_lt (g := gb266) (o := .cells #[.int .i64 a0_0, .string a0_1, .int .i64 a0_2, .bool a0_3, .int .i64 a0_4, .string a0_5, .int .i64 a0_6, .string a0_7, .slice none 0 0] 27 (0, 0)) (by (with_reducible repeat (first | refine blk_drewN ?_ _ | refine blk_drew ?_ | refine blk_alloc ?_ _)); refine blk_put (cs := #[.int .i64 a0_0, .string a0_1, .int .i64 a0_2, .bool a0_3, .int .i64 a0_4, .string a0_5, .int .i64 a0_6, .string a0_7, .slice A0_8 l0_8.length c0_8]) ?_ 8 _ rfl; (with_reducible repeat (first | refine blk_drewN ?_ _ | refine blk_drew ?_ | refine blk_alloc ?_ _)); apply blk_all9_; (with_reducible repeat (first | refine blk_drewN ?_ _ | refine blk_drew ?_ | refine blk_alloc ?_ _)); exact BK266.out)) : gb266 ≠ gb267)); have n9_ := Aside0.mk ((by rw [hg]; exact Nat.ne_of_gt (blk_lt (g := gb266) (o := .cells #[.int .i64 a0_0, .string a0_1, .int .i64 a0_2, .bool a0_3, .int .i64 a0_4, .string a0_5, .int .i64 a0_6, .string a0_7, .slice none 0 0] 27 (0, 0)) (by (with_reducible repeat (first | refine blk_drewN ?_ _ | refine blk_drew ?_ | refine blk_alloc ?_ _)); refine blk_put (cs := #[.int .i64 a0_0, .string a0_1, .int .i64 a0_2, .bool a0_3, .int .i64 a0_4, .string a0_5, .int .i64 a0_6, .string a0_7, .slice A0_8 l0_8.length c0_8]) ?_ 8 _ rfl; (with_reducible repeat (first | refine blk_drewN ?_ _ | refine blk_drew ?_ | refine blk_alloc ?_ _)); apply blk_all9_; (with_reducible repeat (first | refine blk_drewN ?_ _ | refine blk_drew ?_ | refine blk_alloc ?_ _)); exact BK266.out)) : gb267 ≠ gb266)); clear BK265; clear BK266; clear HB; have BK265 := n0_; have BK266 := n1_; have HB := n2_; have BK267 := n3_; have GW267 := n4_; have GE267 := n5_; have NB265_267 := n6_; have NB267_265 := n7_; have NB266_267 := n8_; have NB267_266 := n9_; clear n0_ n1_ n2_ n3_ n4_ n5_ n6_ n7_ n8_ n9_; clear hb hbox hg; have hnb10 := NB267_265.out; have hnc10 := NB265_267.out; have hnb11 := NB267_266.out; have hnc11 := NB266_267.out; have C12_0 : w9.cell? ⟨gb267, 0, none⟩ = some (.int .i64 0) := (blk_cell BK267.out 0).trans rfl; have C12_1 : w9.cell? ⟨gb267, 1, none⟩ = some (.string (⟨#[]⟩ : ByteArray)) := (blk_cell BK267.out 1).trans rfl; have C12_2 : w9.cell? ⟨gb267, 2, none⟩ = some (.int .i64 0) := (blk_cell BK267.out 2).trans rfl; have C12_3 : w9.cell? ⟨gb267, 3, none⟩ = some (.bool false) := (blk_cell BK267.out 3).trans rfl; have C12_4 : w9.cell? ⟨gb267, 4, none⟩ = some (.int .i64 0) := (blk_cell BK267.out 4).trans rfl; have C12_5 : w9.cell? ⟨gb267, 5, none⟩ = some (.string (⟨#[]⟩ : ByteArray)) := (blk_cell BK267.out 5).trans rfl; have C12_6 : w9.cell? ⟨gb267, 6, none⟩ = some (.int .i64 0) := (blk_cell BK267.out 6).trans rfl; have C12_7 : w9.cell? ⟨gb267, 7, none⟩ = some (.string (⟨#[]⟩ : ByteArray)) := (blk_cell BK267.out 7).trans rfl; have C12_8 : w9.cell? ⟨gb267, 8, none⟩ = some (.slice none 0 0) := (blk_cell BK267.out 8).trans rfl; have F12_0 := blk_frozen BK267.out 0; have F12_1 := blk_frozen BK267.out 1; have F12_2 := blk_frozen BK267.out 2; have F12_3 := blk_frozen BK267.out 3; have F12_4 := blk_frozen BK267.out 4; have F12_5 := blk_frozen BK267.out 5; have F12_6 := blk_frozen BK267.out 6; have F12_7 := blk_frozen BK267.out 7; have F12_8 := blk_frozen BK267.out 8; have C13_0 : w9.cell? ⟨gb265, 0, none⟩ = some (.int .i64 a0_0) := (blk_cell BK265.out 0).trans rfl; have C13_1 : w9.cell? ⟨gb265, 1, none⟩ = some (.string a0_1) := (blk_cell BK265.out 1).trans rfl; have C13_2 : w9.cell? ⟨gb265, 2, none⟩ = some (.int .i64 a0_2) := (blk_cell BK265.out 2).trans rfl; have C13_3 : w9.cell? ⟨gb265, 3, none⟩ = some (.bool a0_3) := (blk_cell BK265.out 3).trans rfl; have C13_4 : w9.cell? ⟨gb265, 4, none⟩ = some (.int .i64 a0_4) := (blk_cell BK265.out 4).trans rfl; have C13_5 : w9.cell? ⟨gb265, 5, none⟩ = some (.string a0_5) := (blk_cell BK265.out 5).trans rfl; have C13_6 : w9.cell? ⟨gb265, 6, none⟩ = some (.int .i64 a0_6) := (blk_cell BK265.out 6).trans rfl; have C13_7 : w9.cell? ⟨gb265, 7, none⟩ = some (.string a0_7) := (blk_cell BK265.out 7).trans rfl; have C13_8 : w9.cell? ⟨gb265, 8, none⟩ = some (.slice A0_8 l0_8.length c0_8) := (blk_cell BK265.out 8).trans rfl; have F13_0 := blk_frozen BK265.out 0; have F13_1 := blk_frozen BK265.out 1; have F13_2 := blk_frozen BK265.out 2; have F13_3 := blk_frozen BK265.out 3; have F13_4 := blk_frozen BK265.out 4; have F13_5 := blk_frozen BK265.out 5; have F13_6 := blk_frozen BK265.out 6; have F13_7 := blk_frozen BK265.out 7; have F13_8 := blk_frozen BK265.out 8))
 (try simp only [Act.put, List.setIfInBounds_toArray, List.set_cons_zero, List.set_cons_succ])
 go_cut [] (fun wc => ∃ (kq : Nat) (x268000_1 : Int) (x268001_1 : ByteArray) (x268002_1 : Int) (x268003_1 : Bool) (x268004_1 : Int) (x268005_1 : ByteArray) (x268006_1 : Int) (x268007_1 : ByteArray), Aside0 (firkinref17_one.j1 kq a0_0 a0_1 a0_2 a0_3 a0_4 a0_5 a0_6 a0_7 l0_8 a0_0 a0_1 a0_2 a0_3 a0_4 a0_5 a0_6 a0_7 x268000_1 x268001_1 x268002_1 x268003_1 x268004_1 x268005_1 x268006_1 x268007_1 = some r) ∧ Aside0 (kq ≤ k) ∧ Aside0 (wc.heap[gb265]? = some (.cells #[.int .i64 a0_0, .string a0_1, .int .i64 a0_2, .bool a0_3, .int .i64 a0_4, .string a0_5, .int .i64 a0_6, .string a0_7, (.slice A0_8 l0_8.length c0_8)] 27 (0, 0))) ∧ Aside0 (wc.heap[gb266]? = some (.cells #[.int .i64 a0_0, .string a0_1, .int .i64 a0_2, .bool a0_3, .int .i64 a0_4, .string a0_5, .int .i64 a0_6, .string a0_7, (.slice none 0 0)] 27 (0, 0))) ∧ Aside0 (wc.heap[gb267]? = some (.cells #[.int .i64 x268000_1, .string x268001_1, .int .i64 x268002_1, .bool x268003_1, .int .i64 x268004_1, .string x268005_1, .int .i64 x268006_1, .string x268007_1, (.slice none 0 0)] 27 (0, 0))) ∧ Aside0 (Below w.heap.size w wc))
 case first =>
  have H := HC2.out
  clear HC2
  by_cases c14 : a0_0 = 1
  ·rw [if_pos c14] at H
   have c14b0 : (a0_0 == 1) = true := beq_iff_eq.mpr c14
   have c14b1 : (a0_0 != 1) = false := bne_eq_false_iff_eq.mpr c14
   clear c14
   (first | rw [c14b0] | (simp only [i64_w, i32_w]; rw [c14b0]) | skip)
   have H' := Aside0.mk H
   clear H
   go_wp2
   go_meet
   case rel => exact ⟨_, (a0_0), ((⟨#[]⟩ : ByteArray)), (0), (false), (0), ((⟨#[]⟩ : ByteArray)), (0), ((⟨#[]⟩ : ByteArray)), H', ⟨by first | omega | exact Nat.le_refl _⟩, ⟨by (iterate 9 ((with_reducible repeat (first | refine blk_drewN ?_ _ | refine blk_drew ?_ | refine blk_alloc ?_ _)); refine blk_far ?_ NB265_267.out _)); (with_reducible repeat (first | refine blk_drewN ?_ _ | refine blk_drew ?_ | refine blk_alloc ?_ _)); exact BK265.out⟩, ⟨by (iterate 9 ((with_reducible repeat (first | refine blk_drewN ?_ _ | refine blk_drew ?_ | refine blk_alloc ?_ _)); refine blk_far ?_ NB266_267.out _)); (with_reducible repeat (first | refine blk_drewN ?_ _ | refine blk_drew ?_ | refine blk_alloc ?_ _)); exact BK266.out⟩, ⟨by (with_reducible repeat (first | refine blk_drewN ?_ _ | refine blk_drew ?_ | refine blk_alloc ?_ _)); apply blk_all9_; (with_reducible repeat (first | refine blk_drewN ?_ _ | refine blk_drew ?_ | refine blk_alloc ?_ _)); exact BK267.out⟩, ⟨by repeat (first | (with_reducible first | exact HB.out | apply below_alloc | apply pw_below_drewN | apply below_drew1 | refine below_set ?_ GE265.out | refine below_set ?_ GE266.out | refine below_set ?_ GE267.out) | exact HB.out)⟩⟩
  ·rw [if_neg c14] at H
   have c14b0 : (a0_0 == 1) = false := beq_eq_false_iff_ne.mpr c14
   have c14b1 : (a0_0 != 1) = true := bne_iff_ne.mpr c14
   (first | rw [c14b0] | (simp only [i64_w, i32_w]; rw [c14b0]) | skip)
   by_cases c15 : a0_0 = 2
   ·rw [if_pos c15] at H
    have c15b0 : (a0_0 == 2) = true := beq_iff_eq.mpr c15
    have c15b1 : (a0_0 != 2) = false := bne_eq_false_iff_eq.mpr c15
    clear c15
    replace H := Option.bind_eq_some_iff.mp H
    obtain ⟨t268, A160, H⟩ := H
    replace H : (if t268 = true then (if a0_2 < 1 then (some false) else (if a0_2 > 6 then (some false) else ((firkinref09_May.f k a0_6 false a0_3 a0_4 a0_5).bind fun t269 => (if t269 = true then (firkinref17_one.j1 k a0_0 a0_1 a0_2 a0_3 a0_4 a0_5 a0_6 a0_7 l0_8 a0_0 a0_1 a0_2 a0_3 a0_4 a0_5 a0_6 a0_7 a0_0 a0_1 a0_2 a0_3 a0_4 a0_5 a0_6 (⟨#[]⟩ : ByteArray)) else (some false))))) else (some false)) = some r := H
    have A16 := Aside0.mk A160
    clear A160
    by_cases c17 : t268 = true
    ·subst c17
     have H1 : (if a0_2 < 1 then (some false) else (if a0_2 > 6 then (some false) else ((firkinref09_May.f k a0_6 false a0_3 a0_4 a0_5).bind fun t269 => (if t269 = true then (firkinref17_one.j1 k a0_0 a0_1 a0_2 a0_3 a0_4 a0_5 a0_6 a0_7 l0_8 a0_0 a0_1 a0_2 a0_3 a0_4 a0_5 a0_6 a0_7 a0_0 a0_1 a0_2 a0_3 a0_4 a0_5 a0_6 (⟨#[]⟩ : ByteArray)) else (some false))))) = some r := by rw [if_pos rfl] at H; exact H
     clear H
     have H := H1
     clear H1
     by_cases c18 : a0_2 < 1
     ·rw [if_pos c18] at H
      have c18b0 : decide (a0_2 < 1) = true := decide_eq_true c18
      clear c18
      obtain rfl := Option.some.inj H
      have hnb19 := NB265_266.out
      have hnc19 := NB266_265.out
      have hnb20 := NB265_267.out
      have hnc20 := NB267_265.out
      obtain ⟨C21_0, C21_1, C21_2, C21_3, C21_4, C21_5, C21_6, C21_7, C21_8⟩ := cz9_ BK265.out
      obtain ⟨F21_0, F21_1, F21_2, F21_3, F21_4, F21_5, F21_6, F21_7, F21_8⟩ := fz9_ BK265.out
      have hnb22 := NB267_266.out
      have hnc22 := NB266_267.out
      obtain ⟨C23_0, C23_1, C23_2, C23_3, C23_4, C23_5, C23_6, C23_7, C23_8⟩ := cz9_ BK267.out
      obtain ⟨F23_0, F23_1, F23_2, F23_3, F23_4, F23_5, F23_6, F23_7, F23_8⟩ := fz9_ BK267.out
      go_wp2_with (first | ((with_reducible refine gate_callee (f := 79) rfl ?_); refine gl_ (some 30) rfl Try.func79 #[.string a0_1] ?_; (with_reducible refine (firkinref12_Name.calls k a0_1 true _ A16.out).mono ?_); rintro e w24 ⟨rfl, hb⟩; refine ⟨_, rfl, ?_⟩; have n0_ := Aside0.mk (blk_below (g := gb265) (o := .cells #[.int .i64 a0_0, .string a0_1, .int .i64 a0_2, .bool a0_3, .int .i64 a0_4, .string a0_5, .int .i64 a0_6, .string a0_7, .slice A0_8 l0_8.length c0_8] 27 (0, 0)) (by (iterate 18 ((with_reducible repeat (first | refine blk_drewN ?_ _ | refine blk_drew ?_ | refine blk_alloc ?_ _)); refine blk_far ?_ NB265_267.out _)); (with_reducible repeat (first | refine blk_drewN ?_ _ | refine blk_drew ?_ | refine blk_alloc ?_ _)); exact BK265.out) hb); have n1_ := Aside0.mk (blk_below (g := gb266) (o := .cells #[.int .i64 a0_0, .string a0_1, .int .i64 a0_2, .bool a0_3, .int .i64 a0_4, .string a0_5, .int .i64 a0_6, .string a0_7, .slice none 0 0] 27 (0, 0)) (by (iterate 18 ((with_reducible repeat (first | refine blk_drewN ?_ _ | refine blk_drew ?_ | refine blk_alloc ?_ _)); refine blk_far ?_ NB266_267.out _)); (with_reducible repeat (first | refine blk_drewN ?_ _ | refine blk_drew ?_ | refine blk_alloc ?_ _)); exact BK266.out) hb); have n2_ := Aside0.mk (blk_below (g := gb267) (o := .cells #[.int .i64 a0_0, .string a0_1, .int .i64 a0_2, .bool a0_3, .int .i64 a0_4, .string a0_5, .int .i64 a0_6, .string (⟨#[]⟩ : ByteArray), .slice none 0 0] 27 (0, 0)) (by (with_reducible repeat (first | refine blk_drewN ?_ _ | refine blk_drew ?_ | refine blk_alloc ?_ _)); apply blk_all9_; (with_reducible repeat (first | refine blk_drewN ?_ _ | refine blk_drew ?_ | refine blk_alloc ?_ _)); apply blk_all9_; (with_reducible repeat (first | refine blk_drewN ?_ _ | refine blk_drew ?_ | refine blk_alloc ?_ _)); exact BK267.out) hb); have n3_ := Aside0.mk (below_step (by repeat (first | (with_reducible first | exact HB.out | apply below_alloc | apply pw_below_drewN | apply below_drew1 | refine below_set ?_ GE265.out | refine below_set ?_ GE266.out | refine below_set ?_ GE267.out) | exact HB.out)) hb); clear BK265; clear BK266; clear BK267; clear HB; have BK265 := n0_; have BK266 := n1_; have BK267 := n2_; have HB := n3_; clear n0_ n1_ n2_ n3_; (try clear hb); (try clear hb2); (try clear hk); (try clear hi); have C25_0 : w24.cell? ⟨gb265, 0, none⟩ = some (.int .i64 a0_0) := (blk_cell BK265.out 0).trans rfl; have C25_1 : w24.cell? ⟨gb265, 1, none⟩ = some (.string a0_1) := (blk_cell BK265.out 1).trans rfl; have C25_2 : w24.cell? ⟨gb265, 2, none⟩ = some (.int .i64 a0_2) := (blk_cell BK265.out 2).trans rfl; have C25_3 : w24.cell? ⟨gb265, 3, none⟩ = some (.bool a0_3) := (blk_cell BK265.out 3).trans rfl; have C25_4 : w24.cell? ⟨gb265, 4, none⟩ = some (.int .i64 a0_4) := (blk_cell BK265.out 4).trans rfl; have C25_5 : w24.cell? ⟨gb265, 5, none⟩ = some (.string a0_5) := (blk_cell BK265.out 5).trans rfl; have C25_6 : w24.cell? ⟨gb265, 6, none⟩ = some (.int .i64 a0_6) := (blk_cell BK265.out 6).trans rfl; have C25_7 : w24.cell? ⟨gb265, 7, none⟩ = some (.string a0_7) := (blk_cell BK265.out 7).trans rfl; have C25_8 : w24.cell? ⟨gb265, 8, none⟩ = some (.slice A0_8 l0_8.length c0_8) := (blk_cell BK265.out 8).trans rfl; have F25_0 := blk_frozen BK265.out 0; have F25_1 := blk_frozen BK265.out 1; have F25_2 := blk_frozen BK265.out 2; have F25_3 := blk_frozen BK265.out 3; have F25_4 := blk_frozen BK265.out 4; have F25_5 := blk_frozen BK265.out 5; have F25_6 := blk_frozen BK265.out 6; have F25_7 := blk_frozen BK265.out 7; have F25_8 := blk_frozen BK265.out 8))
      go_ret
      exact en_ HB
     ·rw [if_neg c18] at H
      have c18b0 : decide (a0_2 < 1) = false := decide_eq_false c18
      clear c18
      by_cases c26 : a0_2 > 6
      ·rw [if_pos c26] at H
       have c26b0 : decide (6 < a0_2) = true := decide_eq_true c26
       clear c26
       obtain rfl := Option.some.inj H
       have hnb27 := NB265_266.out
       have hnc27 := NB266_265.out
       have hnb28 := NB265_267.out
       have hnc28 := NB267_265.out
       obtain ⟨C29_0, C29_1, C29_2, C29_3, C29_4, C29_5, C29_6, C29_7, C29_8⟩ := cz9_ BK265.out
       obtain ⟨F29_0, F29_1, F29_2, F29_3, F29_4, F29_5, F29_6, F29_7, F29_8⟩ := fz9_ BK265.out
       have hnb30 := NB267_266.out
       have hnc30 := NB266_267.out
       obtain ⟨C31_0, C31_1, C31_2, C31_3, C31_4, C31_5, C31_6, C31_7, C31_8⟩ := cz9_ BK267.out
       obtain ⟨F31_0, F31_1, F31_2, F31_3, F31_4, F31_5, F31_6, F31_7, F31_8⟩ := fz9_ BK267.out
       go_wp2_with (first | ((with_reducible refine gate_callee (f := 79) rfl ?_); refine gl_ (some 30) rfl Try.func79 #[.string a0_1] ?_; (with_reducible refine (firkinref12_Name.calls k a0_1 true _ A16.out).mono ?_); rintro e w32 ⟨rfl, hb⟩; refine ⟨_, rfl, ?_⟩; have n0_ := Aside0.mk (blk_below (g := gb265) (o := .cells #[.int .i64 a0_0, .string a0_1, .int .i64 a0_2, .bool a0_3, .int .i64 a0_4, .string a0_5, .int .i64 a0_6, .string a0_7, .slice A0_8 l0_8.length c0_8] 27 (0, 0)) (by (iterate 18 ((with_reducible repeat (first | refine blk_drewN ?_ _ | refine blk_drew ?_ | refine blk_alloc ?_ _)); refine blk_far ?_ NB265_267.out _)); (with_reducible repeat (first | refine blk_drewN ?_ _ | refine blk_drew ?_ | refine blk_alloc ?_ _)); exact BK265.out) hb); have n1_ := Aside0.mk (blk_below (g := gb266) (o := .cells #[.int .i64 a0_0, .string a0_1, .int .i64 a0_2, .bool a0_3, .int .i64 a0_4, .string a0_5, .int .i64 a0_6, .string a0_7, .slice none 0 0] 27 (0, 0)) (by (iterate 18 ((with_reducible repeat (first | refine blk_drewN ?_ _ | refine blk_drew ?_ | refine blk_alloc ?_ _)); refine blk_far ?_ NB266_267.out _)); (with_reducible repeat (first | refine blk_drewN ?_ _ | refine blk_drew ?_ | refine blk_alloc ?_ _)); exact BK266.out) hb); have n2_ := Aside0.mk (blk_below (g := gb267) (o := .cells #[.int .i64 a0_0, .string a0_1, .int .i64 a0_2, .bool a0_3, .int .i64 a0_4, .string a0_5, .int .i64 a0_6, .string (⟨#[]⟩ : ByteArray), .slice none 0 0] 27 (0, 0)) (by (with_reducible repeat (first | refine blk_drewN ?_ _ | refine blk_drew ?_ | refine blk_alloc ?_ _)); apply blk_all9_; (with_reducible repeat (first | refine blk_drewN ?_ _ | refine blk_drew ?_ | refine blk_alloc ?_ _)); apply blk_all9_; (with_reducible repeat (first | refine blk_drewN ?_ _ | refine blk_drew ?_ | refine blk_alloc ?_ _)); exact BK267.out) hb); have n3_ := Aside0.mk (below_step (by repeat (first | (with_reducible first | exact HB.out | apply below_alloc | apply pw_below_drewN | apply below_drew1 | refine below_set ?_ GE265.out | refine below_set ?_ GE266.out | refine below_set ?_ GE267.out) | exact HB.out)) hb); clear BK265; clear BK266; clear BK267; clear HB; have BK265 := n0_; have BK266 := n1_; have BK267 := n2_; have HB := n3_; clear n0_ n1_ n2_ n3_; (try clear hb); (try clear hb2); (try clear hk); (try clear hi); have C33_0 : w32.cell? ⟨gb265, 0, none⟩ = some (.int .i64 a0_0) := (blk_cell BK265.out 0).trans rfl; have C33_1 : w32.cell? ⟨gb265, 1, none⟩ = some (.string a0_1) := (blk_cell BK265.out 1).trans rfl; have C33_2 : w32.cell? ⟨gb265, 2, none⟩ = some (.int .i64 a0_2) := (blk_cell BK265.out 2).trans rfl; have C33_3 : w32.cell? ⟨gb265, 3, none⟩ = some (.bool a0_3) := (blk_cell BK265.out 3).trans rfl; have C33_4 : w32.cell? ⟨gb265, 4, none⟩ = some (.int .i64 a0_4) := (blk_cell BK265.out 4).trans rfl; have C33_5 : w32.cell? ⟨gb265, 5, none⟩ = some (.string a0_5) := (blk_cell BK265.out 5).trans rfl; have C33_6 : w32.cell? ⟨gb265, 6, none⟩ = some (.int .i64 a0_6) := (blk_cell BK265.out 6).trans rfl; have C33_7 : w32.cell? ⟨gb265, 7, none⟩ = some (.string a0_7) := (blk_cell BK265.out 7).trans rfl; have C33_8 : w32.cell? ⟨gb265, 8, none⟩ = some (.slice A0_8 l0_8.length c0_8) := (blk_cell BK265.out 8).trans rfl; have F33_0 := blk_frozen BK265.out 0; have F33_1 := blk_frozen BK265.out 1; have F33_2 := blk_frozen BK265.out 2; have F33_3 := blk_frozen BK265.out 3; have F33_4 := blk_frozen BK265.out 4; have F33_5 := blk_frozen BK265.out 5; have F33_6 := blk_frozen BK265.out 6; have F33_7 := blk_frozen BK265.out 7; have F33_8 := blk_frozen BK265.out 8))
       go_ret
       exact en_ HB
      ·rw [if_neg c26] at H
       have c26b0 : decide (6 < a0_2) = false := decide_eq_false c26
       clear c26
       replace H := Option.bind_eq_some_iff.mp H
       obtain ⟨t269, A340, H⟩ := H
       replace H : (if t269 = true then (firkinref17_one.j1 k a0_0 a0_1 a0_2 a0_3 a0_4 a0_5 a0_6 a0_7 l0_8 a0_0 a0_1 a0_2 a0_3 a0_4 a0_5 a0_6 a0_7 a0_0 a0_1 a0_2 a0_3 a0_4 a0_5 a0_6 (⟨#[]⟩ : ByteArray)) else (some false)) = some r := H
       have A34 := Aside0.mk A340
       clear A340
       by_cases c35 : t269 = true
       ·subst c35
        have H1 : (firkinref17_one.j1 k a0_0 a0_1 a0_2 a0_3 a0_4 a0_5 a0_6 a0_7 l0_8 a0_0 a0_1 a0_2 a0_3 a0_4 a0_5 a0_6 a0_7 a0_0 a0_1 a0_2 a0_3 a0_4 a0_5 a0_6 (⟨#[]⟩ : ByteArray)) = some r := by rw [if_pos rfl] at H; exact H
        clear H
        have H := H1
        clear H1
        have H' := Aside0.mk H
        clear H
        have hnb36 := NB265_266.out
        have hnc36 := NB266_265.out
        have hnb37 := NB265_267.out
        have hnc37 := NB267_265.out
        obtain ⟨C38_0, C38_1, C38_2, C38_3, C38_4, C38_5, C38_6, C38_7, C38_8⟩ := cz9_ BK265.out
        obtain ⟨F38_0, F38_1, F38_2, F38_3, F38_4, F38_5, F38_6, F38_7, F38_8⟩ := fz9_ BK265.out
        have hnb39 := NB267_266.out
        have hnc39 := NB266_267.out
        obtain ⟨C40_0, C40_1, C40_2, C40_3, C40_4, C40_5, C40_6, C40_7, C40_8⟩ := cz9_ BK267.out
        obtain ⟨F40_0, F40_1, F40_2, F40_3, F40_4, F40_5, F40_6, F40_7, F40_8⟩ := fz9_ BK267.out
        go_wp2_with (first | ((with_reducible refine gate_callee (f := 79) rfl ?_); refine gl_ (some 30) rfl Try.func79 #[.string a0_1] ?_; (with_reducible refine (firkinref12_Name.calls k a0_1 true _ A16.out).mono ?_); rintro e w41 ⟨rfl, hb⟩; refine ⟨_, rfl, ?_⟩; have n0_ := Aside0.mk (blk_below (g := gb265) (o := .cells #[.int .i64 a0_0, .string a0_1, .int .i64 a0_2, .bool a0_3, .int .i64 a0_4, .string a0_5, .int .i64 a0_6, .string a0_7, .slice A0_8 l0_8.length c0_8] 27 (0, 0)) (by (iterate 18 ((with_reducible repeat (first | refine blk_drewN ?_ _ | refine blk_drew ?_ | refine blk_alloc ?_ _)); refine blk_far ?_ NB265_267.out _)); (with_reducible repeat (first | refine blk_drewN ?_ _ | refine blk_drew ?_ | refine blk_alloc ?_ _)); exact BK265.out) hb); have n1_ := Aside0.mk (blk_below (g := gb266) (o := .cells #[.int .i64 a0_0, .string a0_1, .int .i64 a0_2, .bool a0_3, .int .i64 a0_4, .string a0_5, .int .i64 a0_6, .string a0_7, .slice none 0 0] 27 (0, 0)) (by (iterate 18 ((with_reducible repeat (first | refine blk_drewN ?_ _ | refine blk_drew ?_ | refine blk_alloc ?_ _)); refine blk_far ?_ NB266_267.out _)); (with_reducible repeat (first | refine blk_drewN ?_ _ | refine blk_drew ?_ | refine blk_alloc ?_ _)); exact BK266.out) hb); have n2_ := Aside0.mk (blk_below (g := gb267) (o := .cells #[.int .i64 a0_0, .string a0_1, .int .i64 a0_2, .bool a0_3, .int .i64 a0_4, .string a0_5, .int .i64 a0_6, .string (⟨#[]⟩ : ByteArray), .slice none 0 0] 27 (0, 0)) (by (with_reducible repeat (first | refine blk_drewN ?_ _ | refine blk_drew ?_ | refine blk_alloc ?_ _)); apply blk_all9_; (with_reducible repeat (first | refine blk_drewN ?_ _ | refine blk_drew ?_ | refine blk_alloc ?_ _)); apply blk_all9_; (with_reducible repeat (first | refine blk_drewN ?_ _ | refine blk_drew ?_ | refine blk_alloc ?_ _)); exact BK267.out) hb); have n3_ := Aside0.mk (below_step (by repeat (first | (with_reducible first | exact HB.out | apply below_alloc | apply pw_below_drewN | apply below_drew1 | refine below_set ?_ GE265.out | refine below_set ?_ GE266.out | refine below_set ?_ GE267.out) | exact HB.out)) hb); clear BK265; clear BK266; clear BK267; clear HB; have BK265 := n0_; have BK266 := n1_; have BK267 := n2_; have HB := n3_; clear n0_ n1_ n2_ n3_; (try clear hb); (try clear hb2); (try clear hk); (try clear hi); have C42_0 : w41.cell? ⟨gb265, 0, none⟩ = some (.int .i64 a0_0) := (blk_cell BK265.out 0).trans rfl; have C42_1 : w41.cell? ⟨gb265, 1, none⟩ = some (.string a0_1) := (blk_cell BK265.out 1).trans rfl; have C42_2 : w41.cell? ⟨gb265, 2, none⟩ = some (.int .i64 a0_2) := (blk_cell BK265.out 2).trans rfl; have C42_3 : w41.cell? ⟨gb265, 3, none⟩ = some (.bool a0_3) := (blk_cell BK265.out 3).trans rfl; have C42_4 : w41.cell? ⟨gb265, 4, none⟩ = some (.int .i64 a0_4) := (blk_cell BK265.out 4).trans rfl; have C42_5 : w41.cell? ⟨gb265, 5, none⟩ = some (.string a0_5) := (blk_cell BK265.out 5).trans rfl; have C42_6 : w41.cell? ⟨gb265, 6, none⟩ = some (.int .i64 a0_6) := (blk_cell BK265.out 6).trans rfl; have C42_7 : w41.cell? ⟨gb265, 7, none⟩ = some (.string a0_7) := (blk_cell BK265.out 7).trans rfl; have C42_8 : w41.cell? ⟨gb265, 8, none⟩ = some (.slice A0_8 l0_8.length c0_8) := (blk_cell BK265.out 8).trans rfl; have F42_0 := blk_frozen BK265.out 0; have F42_1 := blk_frozen BK265.out 1; have F42_2 := blk_frozen BK265.out 2; have F42_3 := blk_frozen BK265.out 3; have F42_4 := blk_frozen BK265.out 4; have F42_5 := blk_frozen BK265.out 5; have F42_6 := blk_frozen BK265.out 6; have F42_7 := blk_frozen BK265.out 7; have F42_8 := blk_frozen BK265.out 8) | (go_at_call 57; (with_reducible refine (firkinref09_May.calls k a0_6 false a0_3 a0_4 a0_5 true _ A34.out).mono ?_); rintro e w43 ⟨rfl, hb⟩; have n0_ := Aside0.mk (blk_below (g := gb265) (o := .cells #[.int .i64 a0_0, .string a0_1, .int .i64 a0_2, .bool a0_3, .int .i64 a0_4, .string a0_5, .int .i64 a0_6, .string a0_7, .slice A0_8 l0_8.length c0_8] 27 (0, 0)) (by (with_reducible repeat (first | refine blk_drewN ?_ _ | refine blk_drew ?_ | refine blk_alloc ?_ _)); exact BK265.out) hb); have n1_ := Aside0.mk (blk_below (g := gb266) (o := .cells #[.int .i64 a0_0, .string a0_1, .int .i64 a0_2, .bool a0_3, .int .i64 a0_4, .string a0_5, .int .i64 a0_6, .string a0_7, .slice none 0 0] 27 (0, 0)) (by (with_reducible repeat (first | refine blk_drewN ?_ _ | refine blk_drew ?_ | refine blk_alloc ?_ _)); exact BK266.out) hb); have n2_ := Aside0.mk (blk_below (g := gb267) (o := .cells #[.int .i64 a0_0, .string a0_1, .int .i64 a0_2, .bool a0_3, .int .i64 a0_4, .string a0_5, .int .i64 a0_6, .string (⟨#[]⟩ : ByteArray), .slice none 0 0] 27 (0, 0)) (by (with_reducible repeat (first | refine blk_drewN ?_ _ | refine blk_drew ?_ | refine blk_alloc ?_ _)); exact BK267.out) hb); have n3_ := Aside0.mk (below_step (by repeat (first | (with_reducible first | exact HB.out | apply below_alloc | apply pw_below_drewN | apply below_drew1 | refine below_set ?_ GE265.out | refine below_set ?_ GE266.out | refine below_set ?_ GE267.out) | exact HB.out)) hb); clear BK265; clear BK266; clear BK267; clear HB; have BK265 := n0_; have BK266 := n1_; have BK267 := n2_; have HB := n3_; clear n0_ n1_ n2_ n3_; (try clear hb); (try clear hb2); (try clear hk); (try clear hi)))
        go_meet
        case rel => exact ⟨_, (a0_0), (a0_1), (a0_2), (a0_3), (a0_4), (a0_5), (a0_6), ((⟨#[]⟩ : ByteArray)), H', ⟨by first | omega | exact Nat.le_refl _⟩, ⟨by (with_reducible repeat (first | refine blk_drewN ?_ _ | refine blk_drew ?_ | refine blk_alloc ?_ _)); exact BK265.out⟩, ⟨by (with_reducible repeat (first | refine blk_drewN ?_ _ | refine blk_drew ?_ | refine blk_alloc ?_ _)); exact BK266.out⟩, ⟨by (with_reducible repeat (first | refine blk_drewN ?_ _ | refine blk_drew ?_ | refine blk_alloc ?_ _)); exact BK267.out⟩, ⟨by repeat (first | (with_reducible first | exact HB.out | apply below_alloc | apply pw_below_drewN | apply below_drew1 | refine below_set ?_ GE265.out | refine below_set ?_ GE266.out | refine below_set ?_ GE267.out) | exact HB.out)⟩⟩
       ·replace c35 := Bool.eq_false_iff.mpr c35
        subst c35
        have H1 : (some false) = some r := by rw [if_neg (show ¬ (false = true) by decide)] at H; exact H
        clear H
        have H := H1
        clear H1
        obtain rfl := Option.some.inj H
        have hnb44 := NB265_266.out
        have hnc44 := NB266_265.out
        have hnb45 := NB265_267.out
        have hnc45 := NB267_265.out
        obtain ⟨C46_0, C46_1, C46_2, C46_3, C46_4, C46_5, C46_6, C46_7, C46_8⟩ := cz9_ BK265.out
        obtain ⟨F46_0, F46_1, F46_2, F46_3, F46_4, F46_5, F46_6, F46_7, F46_8⟩ := fz9_ BK265.out
        have hnb47 := NB267_266.out
        have hnc47 := NB266_267.out
        obtain ⟨C48_0, C48_1, C48_2, C48_3, C48_4, C48_5, C48_6, C48_7, C48_8⟩ := cz9_ BK267.out
        obtain ⟨F48_0, F48_1, F48_2, F48_3, F48_4, F48_5, F48_6, F48_7, F48_8⟩ := fz9_ BK267.out
        go_wp2_with (first | ((with_reducible refine gate_callee (f := 79) rfl ?_); refine gl_ (some 30) rfl Try.func79 #[.string a0_1] ?_; (with_reducible refine (firkinref12_Name.calls k a0_1 true _ A16.out).mono ?_); rintro e w49 ⟨rfl, hb⟩; refine ⟨_, rfl, ?_⟩; have n0_ := Aside0.mk (blk_below (g := gb265) (o := .cells #[.int .i64 a0_0, .string a0_1, .int .i64 a0_2, .bool a0_3, .int .i64 a0_4, .string a0_5, .int .i64 a0_6, .string a0_7, .slice A0_8 l0_8.length c0_8] 27 (0, 0)) (by (iterate 18 ((with_reducible repeat (first | refine blk_drewN ?_ _ | refine blk_drew ?_ | refine blk_alloc ?_ _)); refine blk_far ?_ NB265_267.out _)); (with_reducible repeat (first | refine blk_drewN ?_ _ | refine blk_drew ?_ | refine blk_alloc ?_ _)); exact BK265.out) hb); have n1_ := Aside0.mk (blk_below (g := gb266) (o := .cells #[.int .i64 a0_0, .string a0_1, .int .i64 a0_2, .bool a0_3, .int .i64 a0_4, .string a0_5, .int .i64 a0_6, .string a0_7, .slice none 0 0] 27 (0, 0)) (by (iterate 18 ((with_reducible repeat (first | refine blk_drewN ?_ _ | refine blk_drew ?_ | refine blk_alloc ?_ _)); refine blk_far ?_ NB266_267.out _)); (with_reducible repeat (first | refine blk_drewN ?_ _ | refine blk_drew ?_ | refine blk_alloc ?_ _)); exact BK266.out) hb); have n2_ := Aside0.mk (blk_below (g := gb267) (o := .cells #[.int .i64 a0_0, .string a0_1, .int .i64 a0_2, .bool a0_3, .int .i64 a0_4, .string a0_5, .int .i64 a0_6, .string (⟨#[]⟩ : ByteArray), .slice none 0 0] 27 (0, 0)) (by (with_reducible repeat (first | refine blk_drewN ?_ _ | refine blk_drew ?_ | refine blk_alloc ?_ _)); apply blk_all9_; (with_reducible repeat (first | refine blk_drewN ?_ _ | refine blk_drew ?_ | refine blk_alloc ?_ _)); apply blk_all9_; (with_reducible repeat (first | refine blk_drewN ?_ _ | refine blk_drew ?_ | refine blk_alloc ?_ _)); exact BK267.out) hb); have n3_ := Aside0.mk (below_step (by repeat (first | (with_reducible first | exact HB.out | apply below_alloc | apply pw_below_drewN | apply below_drew1 | refine below_set ?_ GE265.out | refine below_set ?_ GE266.out | refine below_set ?_ GE267.out) | exact HB.out)) hb); clear BK265; clear BK266; clear BK267; clear HB; have BK265 := n0_; have BK266 := n1_; have BK267 := n2_; have HB := n3_; clear n0_ n1_ n2_ n3_; (try clear hb); (try clear hb2); (try clear hk); (try clear hi); have C50_0 : w49.cell? ⟨gb265, 0, none⟩ = some (.int .i64 a0_0) := (blk_cell BK265.out 0).trans rfl; have C50_1 : w49.cell? ⟨gb265, 1, none⟩ = some (.string a0_1) := (blk_cell BK265.out 1).trans rfl; have C50_2 : w49.cell? ⟨gb265, 2, none⟩ = some (.int .i64 a0_2) := (blk_cell BK265.out 2).trans rfl; have C50_3 : w49.cell? ⟨gb265, 3, none⟩ = some (.bool a0_3) := (blk_cell BK265.out 3).trans rfl; have C50_4 : w49.cell? ⟨gb265, 4, none⟩ = some (.int .i64 a0_4) := (blk_cell BK265.out 4).trans rfl; have C50_5 : w49.cell? ⟨gb265, 5, none⟩ = some (.string a0_5) := (blk_cell BK265.out 5).trans rfl; have C50_6 : w49.cell? ⟨gb265, 6, none⟩ = some (.int .i64 a0_6) := (blk_cell BK265.out 6).trans rfl; have C50_7 : w49.cell? ⟨gb265, 7, none⟩ = some (.string a0_7) := (blk_cell BK265.out 7).trans rfl; have C50_8 : w49.cell? ⟨gb265, 8, none⟩ = some (.slice A0_8 l0_8.length c0_8) := (blk_cell BK265.out 8).trans rfl; have F50_0 := blk_frozen BK265.out 0; have F50_1 := blk_frozen BK265.out 1; have F50_2 := blk_frozen BK265.out 2; have F50_3 := blk_frozen BK265.out 3; have F50_4 := blk_frozen BK265.out 4; have F50_5 := blk_frozen BK265.out 5; have F50_6 := blk_frozen BK265.out 6; have F50_7 := blk_frozen BK265.out 7; have F50_8 := blk_frozen BK265.out 8) | (go_at_call 57; (with_reducible refine (firkinref09_May.calls k a0_6 false a0_3 a0_4 a0_5 false _ A34.out).mono ?_); rintro e w51 ⟨rfl, hb⟩; have n0_ := Aside0.mk (blk_below (g := gb265) (o := .cells #[.int .i64 a0_0, .string a0_1, .int .i64 a0_2, .bool a0_3, .int .i64 a0_4, .string a0_5, .int .i64 a0_6, .string a0_7, .slice A0_8 l0_8.length c0_8] 27 (0, 0)) (by (with_reducible repeat (first | refine blk_drewN ?_ _ | refine blk_drew ?_ | refine blk_alloc ?_ _)); exact BK265.out) hb); have n1_ := Aside0.mk (blk_below (g := gb266) (o := .cells #[.int .i64 a0_0, .string a0_1, .int .i64 a0_2, .bool a0_3, .int .i64 a0_4, .string a0_5, .int .i64 a0_6, .string a0_7, .slice none 0 0] 27 (0, 0)) (by (with_reducible repeat (first | refine blk_drewN ?_ _ | refine blk_drew ?_ | refine blk_alloc ?_ _)); exact BK266.out) hb); have n2_ := Aside0.mk (blk_below (g := gb267) (o := .cells #[.int .i64 a0_0, .string a0_1, .int .i64 a0_2, .bool a0_3, .int .i64 a0_4, .string a0_5, .int .i64 a0_6, .string (⟨#[]⟩ : ByteArray), .slice none 0 0] 27 (0, 0)) (by (with_reducible repeat (first | refine blk_drewN ?_ _ | refine blk_drew ?_ | refine blk_alloc ?_ _)); exact BK267.out) hb); have n3_ := Aside0.mk (below_step (by repeat (first | (with_reducible first | exact HB.out | apply below_alloc | apply pw_below_drewN | apply below_drew1 | refine below_set ?_ GE265.out | refine below_set ?_ GE266.out | refine below_set ?_ GE267.out) | exact HB.out)) hb); clear BK265; clear BK266; clear BK267; clear HB; have BK265 := n0_; have BK266 := n1_; have BK267 := n2_; have HB := n3_; clear n0_ n1_ n2_ n3_; (try clear hb); (try clear hb2); (try clear hk); (try clear hi)))
        go_ret
        exact en_ HB
    ·replace c17 := Bool.eq_false_iff.mpr c17
     subst c17
     have H1 : (some false) = some r := by rw [if_neg (show ¬ (false = true) by decide)] at H; exact H
     clear H
     have H := H1
     clear H1
     obtain rfl := Option.some.inj H
     have hnb52 := NB265_266.out
     have hnc52 := NB266_265.out
     have hnb53 := NB265_267.out
     have hnc53 := NB267_265.out
     obtain ⟨C54_0, C54_1, C54_2, C54_3, C54_4, C54_5, C54_6, C54_7, C54_8⟩ := cz9_ BK265.out
     obtain ⟨F54_0, F54_1, F54_2, F54_3, F54_4, F54_5, F54_6, F54_7, F54_8⟩ := fz9_ BK265.out
     have hnb55 := NB267_266.out
     have hnc55 := NB266_267.out
     obtain ⟨C56_0, C56_1, C56_2, C56_3, C56_4, C56_5, C56_6, C56_7, C56_8⟩ := cz9_ BK267.out
     obtain ⟨F56_0, F56_1, F56_2, F56_3, F56_4, F56_5, F56_6, F56_7, F56_8⟩ := fz9_ BK267.out
     go_wp2_with (first | ((with_reducible refine gate_callee (f := 79) rfl ?_); refine gl_ (some 30) rfl Try.func79 #[.string a0_1] ?_; (with_reducible refine (firkinref12_Name.calls k a0_1 false _ A16.out).mono ?_); rintro e w57 ⟨rfl, hb⟩; refine ⟨_, rfl, ?_⟩; have n0_ := Aside0.mk (blk_below (g := gb265) (o := .cells #[.int .i64 a0_0, .string a0_1, .int .i64 a0_2, .bool a0_3, .int .i64 a0_4, .string a0_5, .int .i64 a0_6, .string a0_7, .slice A0_8 l0_8.length c0_8] 27 (0, 0)) (by (iterate 18 ((with_reducible repeat (first | refine blk_drewN ?_ _ | refine blk_drew ?_ | refine blk_alloc ?_ _)); refine blk_far ?_ NB265_267.out _)); (with_reducible repeat (first | refine blk_drewN ?_ _ | refine blk_drew ?_ | refine blk_alloc ?_ _)); exact BK265.out) hb); have n1_ := Aside0.mk (blk_below (g := gb266) (o := .cells #[.int .i64 a0_0, .string a0_1, .int .i64 a0_2, .bool a0_3, .int .i64 a0_4, .string a0_5, .int .i64 a0_6, .string a0_7, .slice none 0 0] 27 (0, 0)) (by (iterate 18 ((with_reducible repeat (first | refine blk_drewN ?_ _ | refine blk_drew ?_ | refine blk_alloc ?_ _)); refine blk_far ?_ NB266_267.out _)); (with_reducible repeat (first | refine blk_drewN ?_ _ | refine blk_drew ?_ | refine blk_alloc ?_ _)); exact BK266.out) hb); have n2_ := Aside0.mk (blk_below (g := gb267) (o := .cells #[.int .i64 a0_0, .string a0_1, .int .i64 a0_2, .bool a0_3, .int .i64 a0_4, .string a0_5, .int .i64 a0_6, .string (⟨#[]⟩ : ByteArray), .slice none 0 0] 27 (0, 0)) (by (with_reducible repeat (first | refine blk_drewN ?_ _ | refine blk_drew ?_ | refine blk_alloc ?_ _)); apply blk_all9_; (with_reducible repeat (first | refine blk_drewN ?_ _ | refine blk_drew ?_ | refine blk_alloc ?_ _)); apply blk_all9_; (with_reducible repeat (first | refine blk_drewN ?_ _ | refine blk_drew ?_ | refine blk_alloc ?_ _)); exact BK267.out) hb); have n3_ := Aside0.mk (below_step (by repeat (first | (with_reducible first | exact HB.out | apply below_alloc | apply pw_below_drewN | apply below_drew1 | refine below_set ?_ GE265.out | refine below_set ?_ GE266.out | refine below_set ?_ GE267.out) | exact HB.out)) hb); clear BK265; clear BK266; clear BK267; clear HB; have BK265 := n0_; have BK266 := n1_; have BK267 := n2_; have HB := n3_; clear n0_ n1_ n2_ n3_; (try clear hb); (try clear hb2); (try clear hk); (try clear hi)))
     go_ret
     exact en_ HB
   ·rw [if_neg c15] at H
    have c15b0 : (a0_0 == 2) = false := beq_eq_false_iff_ne.mpr c15
    have c15b1 : (a0_0 != 2) = true := bne_iff_ne.mpr c15
    by_cases c58 : a0_0 = 3
    ·rw [if_pos c58] at H
     have c58b0 : (a0_0 == 3) = true := beq_iff_eq.mpr c58
     have c58b1 : (a0_0 != 3) = false := bne_eq_false_iff_eq.mpr c58
     clear c58
     replace H := Option.bind_eq_some_iff.mp H
     obtain ⟨t270, A590, H⟩ := H
     replace H : (if t270 = true then (firkinref17_one.j1 k a0_0 a0_1 a0_2 a0_3 a0_4 a0_5 a0_6 a0_7 l0_8 a0_0 a0_1 a0_2 a0_3 a0_4 a0_5 a0_6 a0_7 a0_0 a0_1 0 false 0 (⟨#[]⟩ : ByteArray) 0 (⟨#[]⟩ : ByteArray)) else (some false)) = some r := H
     have A59 := Aside0.mk A590
     clear A590
     by_cases c60 : t270 = true
     ·subst c60
      have H1 : (firkinref17_one.j1 k a0_0 a0_1 a0_2 a0_3 a0_4 a0_5 a0_6 a0_7 l0_8 a0_0 a0_1 a0_2 a0_3 a0_4 a0_5 a0_6 a0_7 a0_0 a0_1 0 false 0 (⟨#[]⟩ : ByteArray) 0 (⟨#[]⟩ : ByteArray)) = some r := by rw [if_pos rfl] at H; exact H
      clear H
      have H := H1
      clear H1
      have H' := Aside0.mk H
      clear H
      have hnb61 := NB265_266.out
      have hnc61 := NB266_265.out
      have hnb62 := NB265_267.out
      have hnc62 := NB267_265.out
      obtain ⟨C63_0, C63_1, C63_2, C63_3, C63_4, C63_5, C63_6, C63_7, C63_8⟩ := cz9_ BK265.out
      obtain ⟨F63_0, F63_1, F63_2, F63_3, F63_4, F63_5, F63_6, F63_7, F63_8⟩ := fz9_ BK265.out
      have hnb64 := NB267_266.out
      have hnc64 := NB266_267.out
      obtain ⟨C65_0, C65_1, C65_2, C65_3, C65_4, C65_5, C65_6, C65_7, C65_8⟩ := cz9_ BK267.out
      obtain ⟨F65_0, F65_1, F65_2, F65_3, F65_4, F65_5, F65_6, F65_7, F65_8⟩ := fz9_ BK267.out
      go_wp2_with (first | ((with_reducible refine gate_callee (f := 79) rfl ?_); refine gl_ (some 59) rfl Try.func79 #[.string a0_1] ?_; (with_reducible refine (firkinref12_Name.calls k a0_1 true _ A59.out).mono ?_); rintro e w66 ⟨rfl, hb⟩; refine ⟨_, rfl, ?_⟩; have n0_ := Aside0.mk (blk_below (g := gb265) (o := .cells #[.int .i64 a0_0, .string a0_1, .int .i64 a0_2, .bool a0_3, .int .i64 a0_4, .string a0_5, .int .i64 a0_6, .string a0_7, .slice A0_8 l0_8.length c0_8] 27 (0, 0)) (by (iterate 18 ((with_reducible repeat (first | refine blk_drewN ?_ _ | refine blk_drew ?_ | refine blk_alloc ?_ _)); refine blk_far ?_ NB265_267.out _)); (with_reducible repeat (first | refine blk_drewN ?_ _ | refine blk_drew ?_ | refine blk_alloc ?_ _)); exact BK265.out) hb); have n1_ := Aside0.mk (blk_below (g := gb266) (o := .cells #[.int .i64 a0_0, .string a0_1, .int .i64 a0_2, .bool a0_3, .int .i64 a0_4, .string a0_5, .int .i64 a0_6, .string a0_7, .slice none 0 0] 27 (0, 0)) (by (iterate 18 ((with_reducible repeat (first | refine blk_drewN ?_ _ | refine blk_drew ?_ | refine blk_alloc ?_ _)); refine blk_far ?_ NB266_267.out _)); (with_reducible repeat (first | refine blk_drewN ?_ _ | refine blk_drew ?_ | refine blk_alloc ?_ _)); exact BK266.out) hb); have n2_ := Aside0.mk (blk_below (g := gb267) (o := .cells #[.int .i64 a0_0, .string a0_1, .int .i64 0, .bool false, .int .i64 0, .string (⟨#[]⟩ : ByteArray), .int .i64 0, .string (⟨#[]⟩ : ByteArray), .slice none 0 0] 27 (0, 0)) (by (with_reducible repeat (first | refine blk_drewN ?_ _ | refine blk_drew ?_ | refine blk_alloc ?_ _)); apply blk_all9_; (with_reducible repeat (first | refine blk_drewN ?_ _ | refine blk_drew ?_ | refine blk_alloc ?_ _)); apply blk_all9_; (with_reducible repeat (first | refine blk_drewN ?_ _ | refine blk_drew ?_ | refine blk_alloc ?_ _)); exact BK267.out) hb); have n3_ := Aside0.mk (below_step (by repeat (first | (with_reducible first | exact HB.out | apply below_alloc | apply pw_below_drewN | apply below_drew1 | refine below_set ?_ GE265.out | refine below_set ?_ GE266.out | refine below_set ?_ GE267.out) | exact HB.out)) hb); clear BK265; clear BK266; clear BK267; clear HB; have BK265 := n0_; have BK266 := n1_; have BK267 := n2_; have HB := n3_; clear n0_ n1_ n2_ n3_; (try clear hb); (try clear hb2); (try clear hk); (try clear hi)))
      go_meet
      case rel => exact ⟨_, (a0_0), (a0_1), (0), (false), (0), ((⟨#[]⟩ : ByteArray)), (0), ((⟨#[]⟩ : ByteArray)), H', ⟨by first | omega | exact Nat.le_refl _⟩, ⟨by (with_reducible repeat (first | refine blk_drewN ?_ _ | refine blk_drew ?_ | refine blk_alloc ?_ _)); exact BK265.out⟩, ⟨by (with_reducible repeat (first | refine blk_drewN ?_ _ | refine blk_drew ?_ | refine blk_alloc ?_ _)); exact BK266.out⟩, ⟨by (with_reducible repeat (first | refine blk_drewN ?_ _ | refine blk_drew ?_ | refine blk_alloc ?_ _)); exact BK267.out⟩, ⟨by repeat (first | (with_reducible first | exact HB.out | apply below_alloc | apply pw_below_drewN | apply below_drew1 | refine below_set ?_ GE265.out | refine below_set ?_ GE266.out | refine below_set ?_ GE267.out) | exact HB.out)⟩⟩
     ·replace c60 := Bool.eq_false_iff.mpr c60
      subst c60
      have H1 : (some false) = some r := by rw [if_neg (show ¬ (false = true) by decide)] at H; exact H
      clear H
      have H := H1
      clear H1
      obtain rfl := Option.some.inj H
      have hnb67 := NB265_266.out
      have hnc67 := NB266_265.out
      have hnb68 := NB265_267.out
      have hnc68 := NB267_265.out
      obtain ⟨C69_0, C69_1, C69_2, C69_3, C69_4, C69_5, C69_6, C69_7, C69_8⟩ := cz9_ BK265.out
      obtain ⟨F69_0, F69_1, F69_2, F69_3, F69_4, F69_5, F69_6, F69_7, F69_8⟩ := fz9_ BK265.out
      have hnb70 := NB267_266.out
      have hnc70 := NB266_267.out
      obtain ⟨C71_0, C71_1, C71_2, C71_3, C71_4, C71_5, C71_6, C71_7, C71_8⟩ := cz9_ BK267.out
      obtain ⟨F71_0, F71_1, F71_2, F71_3, F71_4, F71_5, F71_6, F71_7, F71_8⟩ := fz9_ BK267.out
      go_wp2_with (first | ((with_reducible refine gate_callee (f := 79) rfl ?_); refine gl_ (some 59) rfl Try.func79 #[.string a0_1] ?_; (with_reducible refine (firkinref12_Name.calls k a0_1 false _ A59.out).mono ?_); rintro e w72 ⟨rfl, hb⟩; refine ⟨_, rfl, ?_⟩; have n0_ := Aside0.mk (blk_below (g := gb265) (o := .cells #[.int .i64 a0_0, .string a0_1, .int .i64 a0_2, .bool a0_3, .int .i64 a0_4, .string a0_5, .int .i64 a0_6, .string a0_7, .slice A0_8 l0_8.length c0_8] 27 (0, 0)) (by (iterate 18 ((with_reducible repeat (first | refine blk_drewN ?_ _ | refine blk_drew ?_ | refine blk_alloc ?_ _)); refine blk_far ?_ NB265_267.out _)); (with_reducible repeat (first | refine blk_drewN ?_ _ | refine blk_drew ?_ | refine blk_alloc ?_ _)); exact BK265.out) hb); have n1_ := Aside0.mk (blk_below (g := gb266) (o := .cells #[.int .i64 a0_0, .string a0_1, .int .i64 a0_2, .bool a0_3, .int .i64 a0_4, .string a0_5, .int .i64 a0_6, .string a0_7, .slice none 0 0] 27 (0, 0)) (by (iterate 18 ((with_reducible repeat (first | refine blk_drewN ?_ _ | refine blk_drew ?_ | refine blk_alloc ?_ _)); refine blk_far ?_ NB266_267.out _)); (with_reducible repeat (first | refine blk_drewN ?_ _ | refine blk_drew ?_ | refine blk_alloc ?_ _)); exact BK266.out) hb); have n2_ := Aside0.mk (blk_below (g := gb267) (o := .cells #[.int .i64 a0_0, .string a0_1, .int .i64 0, .bool false, .int .i64 0, .string (⟨#[]⟩ : ByteArray), .int .i64 0, .string (⟨#[]⟩ : ByteArray), .slice none 0 0] 27 (0, 0)) (by (with_reducible repeat (first | refine blk_drewN ?_ _ | refine blk_drew ?_ | refine blk_alloc ?_ _)); apply blk_all9_; (with_reducible repeat (first | refine blk_drewN ?_ _ | refine blk_drew ?_ | refine blk_alloc ?_ _)); apply blk_all9_; (with_reducible repeat (first | refine blk_drewN ?_ _ | refine blk_drew ?_ | refine blk_alloc ?_ _)); exact BK267.out) hb); have n3_ := Aside0.mk (below_step (by repeat (first | (with_reducible first | exact HB.out | apply below_alloc | apply pw_below_drewN | apply below_drew1 | refine below_set ?_ GE265.out | refine below_set ?_ GE266.out | refine below_set ?_ GE267.out) | exact HB.out)) hb); clear BK265; clear BK266; clear BK267; clear HB; have BK265 := n0_; have BK266 := n1_; have BK267 := n2_; have HB := n3_; clear n0_ n1_ n2_ n3_; (try clear hb); (try clear hb2); (try clear hk); (try clear hi)))
      go_ret
      exact en_ HB
    ·rw [if_neg c58] at H
     have c58b0 : (a0_0 == 3) = false := beq_eq_false_iff_ne.mpr c58
     have c58b1 : (a0_0 != 3) = true := bne_iff_ne.mpr c58
     by_cases c73 : a0_0 = 4
     ·rw [if_pos c73] at H
      have c73b0 : (a0_0 == 4) = true := beq_iff_eq.mpr c73
      have c73b1 : (a0_0 != 4) = false := bne_eq_false_iff_eq.mpr c73
      clear c73
      replace H := Option.bind_eq_some_iff.mp H
      obtain ⟨t271, A740, H⟩ := H
      replace H : (if t271 = true then (if (a0_7.size : Int) > 40 then (some false) else (firkinref17_one.j1 k a0_0 a0_1 a0_2 a0_3 a0_4 a0_5 a0_6 a0_7 l0_8 a0_0 a0_1 a0_2 a0_3 a0_4 a0_5 a0_6 a0_7 a0_0 a0_1 0 false 0 (⟨#[]⟩ : ByteArray) 0 a0_7)) else (some false)) = some r := H
      have A74 := Aside0.mk A740
      clear A740
      by_cases c75 : t271 = true
      ·subst c75
       have H1 : (if (a0_7.size : Int) > 40 then (some false) else (firkinref17_one.j1 k a0_0 a0_1 a0_2 a0_3 a0_4 a0_5 a0_6 a0_7 l0_8 a0_0 a0_1 a0_2 a0_3 a0_4 a0_5 a0_6 a0_7 a0_0 a0_1 0 false 0 (⟨#[]⟩ : ByteArray) 0 a0_7)) = some r := by rw [if_pos rfl] at H; exact H
       clear H
       have H := H1
       clear H1
       by_cases c76 : (a0_7.size : Int) > 40
       ·rw [if_pos c76] at H
        have c76b0 : decide (40 < (a0_7.size : Int)) = true := decide_eq_true c76
        have c76b1 : decide (40 < a0_7.size) = true := decide_eq_true (by omega)
        clear c76
        obtain rfl := Option.some.inj H
        have hnb77 := NB265_266.out
        have hnc77 := NB266_265.out
        have hnb78 := NB265_267.out
        have hnc78 := NB267_265.out
        obtain ⟨C79_0, C79_1, C79_2, C79_3, C79_4, C79_5, C79_6, C79_7, C79_8⟩ := cz9_ BK265.out
        obtain ⟨F79_0, F79_1, F79_2, F79_3, F79_4, F79_5, F79_6, F79_7, F79_8⟩ := fz9_ BK265.out
        have hnb80 := NB267_266.out
        have hnc80 := NB266_267.out
        obtain ⟨C81_0, C81_1, C81_2, C81_3, C81_4, C81_5, C81_6, C81_7, C81_8⟩ := cz9_ BK267.out
        obtain ⟨F81_0, F81_1, F81_2, F81_3, F81_4, F81_5, F81_6, F81_7, F81_8⟩ := fz9_ BK267.out
        go_wp2_with (first | ((with_reducible refine gate_callee (f := 79) rfl ?_); refine gl_ (some 72) rfl Try.func79 #[.string a0_1] ?_; (with_reducible refine (firkinref12_Name.calls k a0_1 true _ A74.out).mono ?_); rintro e w82 ⟨rfl, hb⟩; refine ⟨_, rfl, ?_⟩; have n0_ := Aside0.mk (blk_below (g := gb265) (o := .cells #[.int .i64 a0_0, .string a0_1, .int .i64 a0_2, .bool a0_3, .int .i64 a0_4, .string a0_5, .int .i64 a0_6, .string a0_7, .slice A0_8 l0_8.length c0_8] 27 (0, 0)) (by (iterate 18 ((with_reducible repeat (first | refine blk_drewN ?_ _ | refine blk_drew ?_ | refine blk_alloc ?_ _)); refine blk_far ?_ NB265_267.out _)); (with_reducible repeat (first | refine blk_drewN ?_ _ | refine blk_drew ?_ | refine blk_alloc ?_ _)); exact BK265.out) hb); have n1_ := Aside0.mk (blk_below (g := gb266) (o := .cells #[.int .i64 a0_0, .string a0_1, .int .i64 a0_2, .bool a0_3, .int .i64 a0_4, .string a0_5, .int .i64 a0_6, .string a0_7, .slice none 0 0] 27 (0, 0)) (by (iterate 18 ((with_reducible repeat (first | refine blk_drewN ?_ _ | refine blk_drew ?_ | refine blk_alloc ?_ _)); refine blk_far ?_ NB266_267.out _)); (with_reducible repeat (first | refine blk_drewN ?_ _ | refine blk_drew ?_ | refine blk_alloc ?_ _)); exact BK266.out) hb); have n2_ := Aside0.mk (blk_below (g := gb267) (o := .cells #[.int .i64 a0_0, .string a0_1, .int .i64 0, .bool false, .int .i64 0, .string (⟨#[]⟩ : ByteArray), .int .i64 0, .string a0_7, .slice none 0 0] 27 (0, 0)) (by (with_reducible repeat (first | refine blk_drewN ?_ _ | refine blk_drew ?_ | refine blk_alloc ?_ _)); apply blk_all9_; (with_reducible repeat (first | refine blk_drewN ?_ _ | refine blk_drew ?_ | refine blk_alloc ?_ _)); apply blk_all9_; (with_reducible repeat (first | refine blk_drewN ?_ _ | refine blk_drew ?_ | refine blk_alloc ?_ _)); exact BK267.out) hb); have n3_ := Aside0.mk (below_step (by repeat (first | (with_reducible first | exact HB.out | apply below_alloc | apply pw_below_drewN | apply below_drew1 | refine below_set ?_ GE265.out | refine below_set ?_ GE266.out | refine below_set ?_ GE267.out) | exact HB.out)) hb); clear BK265; clear BK266; clear BK267; clear HB; have BK265 := n0_; have BK266 := n1_; have BK267 := n2_; have HB := n3_; clear n0_ n1_ n2_ n3_; (try clear hb); (try clear hb2); (try clear hk); (try clear hi); have C83_0 : w82.cell? ⟨gb265, 0, none⟩ = some (.int .i64 a0_0) := (blk_cell BK265.out 0).trans rfl; have C83_1 : w82.cell? ⟨gb265, 1, none⟩ = some (.string a0_1) := (blk_cell BK265.out 1).trans rfl; have C83_2 : w82.cell? ⟨gb265, 2, none⟩ = some (.int .i64 a0_2) := (blk_cell BK265.out 2).trans rfl; have C83_3 : w82.cell? ⟨gb265, 3, none⟩ = some (.bool a0_3) := (blk_cell BK265.out 3).trans rfl; have C83_4 : w82.cell? ⟨gb265, 4, none⟩ = some (.int .i64 a0_4) := (blk_cell BK265.out 4).trans rfl; have C83_5 : w82.cell? ⟨gb265, 5, none⟩ = some (.string a0_5) := (blk_cell BK265.out 5).trans rfl; have C83_6 : w82.cell? ⟨gb265, 6, none⟩ = some (.int .i64 a0_6) := (blk_cell BK265.out 6).trans rfl; have C83_7 : w82.cell? ⟨gb265, 7, none⟩ = some (.string a0_7) := (blk_cell BK265.out 7).trans rfl; have C83_8 : w82.cell? ⟨gb265, 8, none⟩ = some (.slice A0_8 l0_8.length c0_8) := (blk_cell BK265.out 8).trans rfl; have F83_0 := blk_frozen BK265.out 0; have F83_1 := blk_frozen BK265.out 1; have F83_2 := blk_frozen BK265.out 2; have F83_3 := blk_frozen BK265.out 3; have F83_4 := blk_frozen BK265.out 4; have F83_5 := blk_frozen BK265.out 5; have F83_6 := blk_frozen BK265.out 6; have F83_7 := blk_frozen BK265.out 7; have F83_8 := blk_frozen BK265.out 8))
        go_ret
        exact en_ HB
       ·rw [if_neg c76] at H
        have c76b0 : decide (40 < (a0_7.size : Int)) = false := decide_eq_false c76
        have c76b1 : decide (40 < a0_7.size) = false := decide_eq_false (by omega)
        clear c76
        have H' := Aside0.mk H
        clear H
        have hnb84 := NB265_266.out
        have hnc84 := NB266_265.out
        have hnb85 := NB265_267.out
        have hnc85 := NB267_265.out
        obtain ⟨C86_0, C86_1, C86_2, C86_3, C86_4, C86_5, C86_6, C86_7, C86_8⟩ := cz9_ BK265.out
        obtain ⟨F86_0, F86_1, F86_2, F86_3, F86_4, F86_5, F86_6, F86_7, F86_8⟩ := fz9_ BK265.out
        have hnb87 := NB267_266.out
        have hnc87 := NB266_267.out
        obtain ⟨C88_0, C88_1, C88_2, C88_3, C88_4, C88_5, C88_6, C88_7, C88_8⟩ := cz9_ BK267.out
        obtain ⟨F88_0, F88_1, F88_2, F88_3, F88_4, F88_5, F88_6, F88_7, F88_8⟩ := fz9_ BK267.out
        go_wp2_with (first | ((with_reducible refine gate_callee (f := 79) rfl ?_); refine gl_ (some 72) rfl Try.func79 #[.string a0_1] ?_; (with_reducible refine (firkinref12_Name.calls k a0_1 true _ A74.out).mono ?_); rintro e w89 ⟨rfl, hb⟩; refine ⟨_, rfl, ?_⟩; have n0_ := Aside0.mk (blk_below (g := gb265) (o := .cells #[.int .i64 a0_0, .string a0_1, .int .i64 a0_2, .bool a0_3, .int .i64 a0_4, .string a0_5, .int .i64 a0_6, .string a0_7, .slice A0_8 l0_8.length c0_8] 27 (0, 0)) (by (iterate 18 ((with_reducible repeat (first | refine blk_drewN ?_ _ | refine blk_drew ?_ | refine blk_alloc ?_ _)); refine blk_far ?_ NB265_267.out _)); (with_reducible repeat (first | refine blk_drewN ?_ _ | refine blk_drew ?_ | refine blk_alloc ?_ _)); exact BK265.out) hb); have n1_ := Aside0.mk (blk_below (g := gb266) (o := .cells #[.int .i64 a0_0, .string a0_1, .int .i64 a0_2, .bool a0_3, .int .i64 a0_4, .string a0_5, .int .i64 a0_6, .string a0_7, .slice none 0 0] 27 (0, 0)) (by (iterate 18 ((with_reducible repeat (first | refine blk_drewN ?_ _ | refine blk_drew ?_ | refine blk_alloc ?_ _)); refine blk_far ?_ NB266_267.out _)); (with_reducible repeat (first | refine blk_drewN ?_ _ | refine blk_drew ?_ | refine blk_alloc ?_ _)); exact BK266.out) hb); have n2_ := Aside0.mk (blk_below (g := gb267) (o := .cells #[.int .i64 a0_0, .string a0_1, .int .i64 0, .bool false, .int .i64 0, .string (⟨#[]⟩ : ByteArray), .int .i64 0, .string a0_7, .slice none 0 0] 27 (0, 0)) (by (with_reducible repeat (first | refine blk_drewN ?_ _ | refine blk_drew ?_ | refine blk_alloc ?_ _)); apply blk_all9_; (with_reducible repeat (first | refine blk_drewN ?_ _ | refine blk_drew ?_ | refine blk_alloc ?_ _)); apply blk_all9_; (with_reducible repeat (first | refine blk_drewN ?_ _ | refine blk_drew ?_ | refine blk_alloc ?_ _)); exact BK267.out) hb); have n3_ := Aside0.mk (below_step (by repeat (first | (with_reducible first | exact HB.out | apply below_alloc | apply pw_below_drewN | apply below_drew1 | refine below_set ?_ GE265.out | refine below_set ?_ GE266.out | refine below_set ?_ GE267.out) | exact HB.out)) hb); clear BK265; clear BK266; clear BK267; clear HB; have BK265 := n0_; have BK266 := n1_; have BK267 := n2_; have HB := n3_; clear n0_ n1_ n2_ n3_; (try clear hb); (try clear hb2); (try clear hk); (try clear hi); have C90_0 : w89.cell? ⟨gb265, 0, none⟩ = some (.int .i64 a0_0) := (blk_cell BK265.out 0).trans rfl; have C90_1 : w89.cell? ⟨gb265, 1, none⟩ = some (.string a0_1) := (blk_cell BK265.out 1).trans rfl; have C90_2 : w89.cell? ⟨gb265, 2, none⟩ = some (.int .i64 a0_2) := (blk_cell BK265.out 2).trans rfl; have C90_3 : w89.cell? ⟨gb265, 3, none⟩ = some (.bool a0_3) := (blk_cell BK265.out 3).trans rfl; have C90_4 : w89.cell? ⟨gb265, 4, none⟩ = some (.int .i64 a0_4) := (blk_cell BK265.out 4).trans rfl; have C90_5 : w89.cell? ⟨gb265, 5, none⟩ = some (.string a0_5) := (blk_cell BK265.out 5).trans rfl; have C90_6 : w89.cell? ⟨gb265, 6, none⟩ = some (.int .i64 a0_6) := (blk_cell BK265.out 6).trans rfl; have C90_7 : w89.cell? ⟨gb265, 7, none⟩ = some (.string a0_7) := (blk_cell BK265.out 7).trans rfl; have C90_8 : w89.cell? ⟨gb265, 8, none⟩ = some (.slice A0_8 l0_8.length c0_8) := (blk_cell BK265.out 8).trans rfl; have F90_0 := blk_frozen BK265.out 0; have F90_1 := blk_frozen BK265.out 1; have F90_2 := blk_frozen BK265.out 2; have F90_3 := blk_frozen BK265.out 3; have F90_4 := blk_frozen BK265.out 4; have F90_5 := blk_frozen BK265.out 5; have F90_6 := blk_frozen BK265.out 6; have F90_7 := blk_frozen BK265.out 7; have F90_8 := blk_frozen BK265.out 8))
        go_meet
        case rel => exact ⟨_, (a0_0), (a0_1), (0), (false), (0), ((⟨#[]⟩ : ByteArray)), (0), (a0_7), H', ⟨by first | omega | exact Nat.le_refl _⟩, ⟨by (with_reducible repeat (first | refine blk_drewN ?_ _ | refine blk_drew ?_ | refine blk_alloc ?_ _)); exact BK265.out⟩, ⟨by (with_reducible repeat (first | refine blk_drewN ?_ _ | refine blk_drew ?_ | refine blk_alloc ?_ _)); exact BK266.out⟩, ⟨by (with_reducible repeat (first | refine blk_drewN ?_ _ | refine blk_drew ?_ | refine blk_alloc ?_ _)); exact BK267.out⟩, ⟨by repeat (first | (with_reducible first | exact HB.out | apply below_alloc | apply pw_below_drewN | apply below_drew1 | refine below_set ?_ GE265.out | refine below_set ?_ GE266.out | refine below_set ?_ GE267.out) | exact HB.out)⟩⟩
      ·replace c75 := Bool.eq_false_iff.mpr c75
       subst c75
       have H1 : (some false) = some r := by rw [if_neg (show ¬ (false = true) by decide)] at H; exact H
       clear H
       have H := H1
       clear H1
       obtain rfl := Option.some.inj H
       have hnb91 := NB265_266.out
       have hnc91 := NB266_265.out
       have hnb92 := NB265_267.out
       have hnc92 := NB267_265.out
       obtain ⟨C93_0, C93_1, C93_2, C93_3, C93_4, C93_5, C93_6, C93_7, C93_8⟩ := cz9_ BK265.out
       obtain ⟨F93_0, F93_1, F93_2, F93_3, F93_4, F93_5, F93_6, F93_7, F93_8⟩ := fz9_ BK265.out
       have hnb94 := NB267_266.out
       have hnc94 := NB266_267.out
       obtain ⟨C95_0, C95_1, C95_2, C95_3, C95_4, C95_5, C95_6, C95_7, C95_8⟩ := cz9_ BK267.out
       obtain ⟨F95_0, F95_1, F95_2, F95_3, F95_4, F95_5, F95_6, F95_7, F95_8⟩ := fz9_ BK267.out
       go_wp2_with (first | ((with_reducible refine gate_callee (f := 79) rfl ?_); refine gl_ (some 72) rfl Try.func79 #[.string a0_1] ?_; (with_reducible refine (firkinref12_Name.calls k a0_1 false _ A74.out).mono ?_); rintro e w96 ⟨rfl, hb⟩; refine ⟨_, rfl, ?_⟩; have n0_ := Aside0.mk (blk_below (g := gb265) (o := .cells #[.int .i64 a0_0, .string a0_1, .int .i64 a0_2, .bool a0_3, .int .i64 a0_4, .string a0_5, .int .i64 a0_6, .string a0_7, .slice A0_8 l0_8.length c0_8] 27 (0, 0)) (by (iterate 18 ((with_reducible repeat (first | refine blk_drewN ?_ _ | refine blk_drew ?_ | refine blk_alloc ?_ _)); refine blk_far ?_ NB265_267.out _)); (with_reducible repeat (first | refine blk_drewN ?_ _ | refine blk_drew ?_ | refine blk_alloc ?_ _)); exact BK265.out) hb); have n1_ := Aside0.mk (blk_below (g := gb266) (o := .cells #[.int .i64 a0_0, .string a0_1, .int .i64 a0_2, .bool a0_3, .int .i64 a0_4, .string a0_5, .int .i64 a0_6, .string a0_7, .slice none 0 0] 27 (0, 0)) (by (iterate 18 ((with_reducible repeat (first | refine blk_drewN ?_ _ | refine blk_drew ?_ | refine blk_alloc ?_ _)); refine blk_far ?_ NB266_267.out _)); (with_reducible repeat (first | refine blk_drewN ?_ _ | refine blk_drew ?_ | refine blk_alloc ?_ _)); exact BK266.out) hb); have n2_ := Aside0.mk (blk_below (g := gb267) (o := .cells #[.int .i64 a0_0, .string a0_1, .int .i64 0, .bool false, .int .i64 0, .string (⟨#[]⟩ : ByteArray), .int .i64 0, .string a0_7, .slice none 0 0] 27 (0, 0)) (by (with_reducible repeat (first | refine blk_drewN ?_ _ | refine blk_drew ?_ | refine blk_alloc ?_ _)); apply blk_all9_; (with_reducible repeat (first | refine blk_drewN ?_ _ | refine blk_drew ?_ | refine blk_alloc ?_ _)); apply blk_all9_; (with_reducible repeat (first | refine blk_drewN ?_ _ | refine blk_drew ?_ | refine blk_alloc ?_ _)); exact BK267.out) hb); have n3_ := Aside0.mk (below_step (by repeat (first | (with_reducible first | exact HB.out | apply below_alloc | apply pw_below_drewN | apply below_drew1 | refine below_set ?_ GE265.out | refine below_set ?_ GE266.out | refine below_set ?_ GE267.out) | exact HB.out)) hb); clear BK265; clear BK266; clear BK267; clear HB; have BK265 := n0_; have BK266 := n1_; have BK267 := n2_; have HB := n3_; clear n0_ n1_ n2_ n3_; (try clear hb); (try clear hb2); (try clear hk); (try clear hi)))
       go_ret
       exact en_ HB
     ·rw [if_neg c73] at H
      have c73b0 : (a0_0 == 4) = false := beq_eq_false_iff_ne.mpr c73
      have c73b1 : (a0_0 != 4) = true := bne_iff_ne.mpr c73
      by_cases c97 : a0_0 = 5
      ·rw [if_pos c97] at H
       have c97b0 : (a0_0 == 5) = true := beq_iff_eq.mpr c97
       have c97b1 : (a0_0 != 5) = false := bne_eq_false_iff_eq.mpr c97
       clear c97
       by_cases c98 : (l0_8.length : Int) = 1
       ·rw [if_pos c98] at H
        have c98b0 : ((l0_8.length : Int) == 1) = true := beq_iff_eq.mpr c98
        have c98b1 : ((l0_8.length : Int) != 1) = false := bne_eq_false_iff_eq.mpr c98
        clear c98
        have H' := Aside0.mk H
        clear H
        have hnb99 := NB265_266.out
        have hnc99 := NB266_265.out
        have hnb100 := NB265_267.out
        have hnc100 := NB267_265.out
        obtain ⟨C101_0, C101_1, C101_2, C101_3, C101_4, C101_5, C101_6, C101_7, C101_8⟩ := cz9_ BK265.out
        obtain ⟨F101_0, F101_1, F101_2, F101_3, F101_4, F101_5, F101_6, F101_7, F101_8⟩ := fz9_ BK265.out
        go_wp2
        go_meet
        case rel => exact ⟨_, (a0_0), ((⟨#[]⟩ : ByteArray)), (0), (false), (0), ((⟨#[]⟩ : ByteArray)), (0), ((⟨#[]⟩ : ByteArray)), H', ⟨by first | omega | exact Nat.le_refl _⟩, ⟨by (iterate 9 ((with_reducible repeat (first | refine blk_drewN ?_ _ | refine blk_drew ?_ | refine blk_alloc ?_ _)); refine blk_far ?_ NB265_267.out _)); (with_reducible repeat (first | refine blk_drewN ?_ _ | refine blk_drew ?_ | refine blk_alloc ?_ _)); exact BK265.out⟩, ⟨by (iterate 9 ((with_reducible repeat (first | refine blk_drewN ?_ _ | refine blk_drew ?_ | refine blk_alloc ?_ _)); refine blk_far ?_ NB266_267.out _)); (with_reducible repeat (first | refine blk_drewN ?_ _ | refine blk_drew ?_ | refine blk_alloc ?_ _)); exact BK266.out⟩, ⟨by (with_reducible repeat (first | refine blk_drewN ?_ _ | refine blk_drew ?_ | refine blk_alloc ?_ _)); apply blk_all9_; (with_reducible repeat (first | refine blk_drewN ?_ _ | refine blk_drew ?_ | refine blk_alloc ?_ _)); exact BK267.out⟩, ⟨by repeat (first | (with_reducible first | exact HB.out | apply below_alloc | apply pw_below_drewN | apply below_drew1 | refine below_set ?_ GE265.out | refine below_set ?_ GE266.out | refine below_set ?_ GE267.out) | exact HB.out)⟩⟩
       ·rw [if_neg c98] at H
        have c98b0 : ((l0_8.length : Int) == 1) = false := beq_eq_false_iff_ne.mpr c98
        have c98b1 : ((l0_8.length : Int) != 1) = true := bne_iff_ne.mpr c98
        obtain rfl := Option.some.inj H
        have hnb102 := NB265_266.out
        have hnc102 := NB266_265.out
        have hnb103 := NB265_267.out
        have hnc103 := NB267_265.out
        obtain ⟨C104_0, C104_1, C104_2, C104_3, C104_4, C104_5, C104_6, C104_7, C104_8⟩ := cz9_ BK265.out
        obtain ⟨F104_0, F104_1, F104_2, F104_3, F104_4, F104_5, F104_6, F104_7, F104_8⟩ := fz9_ BK265.out
        go_wp2
        go_ret
        exact en_ HB
      ·rw [if_neg c97] at H
       have c97b0 : (a0_0 == 5) = false := beq_eq_false_iff_ne.mpr c97
       have c97b1 : (a0_0 != 5) = true := bne_iff_ne.mpr c97
       have HC105 := Aside0.mk H
       clear H
       go_upto_if 86 with (fail)
       go_cut [86] (fun v86 wc => ∃ (kq : Nat) (x86_104 : Bool), v86 = .bool x86_104 ∧ Aside0 (firkinref17_one.j0 kq x86_104 a0_0 a0_1 a0_2 a0_3 a0_4 a0_5 a0_6 a0_7 l0_8 a0_0 a0_1 a0_2 a0_3 a0_4 a0_5 a0_6 a0_7 a0_0 (⟨#[]⟩ : ByteArray) 0 false 0 (⟨#[]⟩ : ByteArray) 0 (⟨#[]⟩ : ByteArray) = some r) ∧ Aside0 (kq ≤ k) ∧ Aside0 (wc.heap[gb265]? = some (.cells #[.int .i64 a0_0, .string a0_1, .int .i64 a0_2, .bool a0_3, .int .i64 a0_4, .string a0_5, .int .i64 a0_6, .string a0_7, (.slice A0_8 l0_8.length c0_8)] 27 (0, 0))) ∧ Aside0 (wc.heap[gb266]? = some (.cells #[.int .i64 a0_0, .string a0_1, .int .i64 a0_2, .bool a0_3, .int .i64 a0_4, .string a0_5, .int .i64 a0_6, .string a0_7, (.slice none 0 0)] 27 (0, 0))) ∧ Aside0 (wc.heap[gb267]? = some (.cells #[.int .i64 a0_0, .string (⟨#[]⟩ : ByteArray), .int .i64 0, .bool false, .int .i64 0, .string (⟨#[]⟩ : ByteArray), .int .i64 0, .string (⟨#[]⟩ : ByteArray), (.slice none 0 0)] 27 (0, 0))) ∧ Aside0 (Below w.heap.size w wc))
       case first =>
        have H := HC105.out
        clear HC105
        by_cases c106 : a0_0 = 6
        ·rw [if_pos c106] at H
         have c106b0 : (a0_0 == 6) = true := beq_iff_eq.mpr c106
         have c106b1 : (a0_0 != 6) = false := bne_eq_false_iff_eq.mpr c106
         clear c106
         (first | rw [c106b0] | (simp only [i64_w, i32_w]; rw [c106b0]) | skip)
         have H' := Aside0.mk H
         clear H
         go_wp2
         go_meet
         case rel => exact ⟨_, ((a0_0 == 6)), (by first | rfl | (simp; done) | (simp [*]; done)), H', ⟨by first | omega | exact Nat.le_refl _⟩, ⟨by (iterate 9 ((with_reducible repeat (first | refine blk_drewN ?_ _ | refine blk_drew ?_ | refine blk_alloc ?_ _)); refine blk_far ?_ NB265_267.out _)); (with_reducible repeat (first | refine blk_drewN ?_ _ | refine blk_drew ?_ | refine blk_alloc ?_ _)); exact BK265.out⟩, ⟨by (iterate 9 ((with_reducible repeat (first | refine blk_drewN ?_ _ | refine blk_drew ?_ | refine blk_alloc ?_ _)); refine blk_far ?_ NB266_267.out _)); (with_reducible repeat (first | refine blk_drewN ?_ _ | refine blk_drew ?_ | refine blk_alloc ?_ _)); exact BK266.out⟩, ⟨by (with_reducible repeat (first | refine blk_drewN ?_ _ | refine blk_drew ?_ | refine blk_alloc ?_ _)); apply blk_all9_; (with_reducible repeat (first | refine blk_drewN ?_ _ | refine blk_drew ?_ | refine blk_alloc ?_ _)); exact BK267.out⟩, ⟨by repeat (first | (with_reducible first | exact HB.out | apply below_alloc | apply pw_below_drewN | apply below_drew1 | refine below_set ?_ GE265.out | refine below_set ?_ GE266.out | refine below_set ?_ GE267.out) | exact HB.out)⟩⟩
        ·rw [if_neg c106] at H
         have c106b0 : (a0_0 == 6) = false := beq_eq_false_iff_ne.mpr c106
         have c106b1 : (a0_0 != 6) = true := bne_iff_ne.mpr c106
         (first | rw [c106b0] | (simp only [i64_w, i32_w]; rw [c106b0]) | skip)
         have H' := Aside0.mk H
         clear H
         go_wp2
         go_meet
         case rel => exact ⟨_, ((a0_0 == 7)), (by first | rfl | (simp; done) | (simp [*]; done)), H', ⟨by first | omega | exact Nat.le_refl _⟩, ⟨by (iterate 9 ((with_reducible repeat (first | refine blk_drewN ?_ _ | refine blk_drew ?_ | refine blk_alloc ?_ _)); refine blk_far ?_ NB265_267.out _)); (with_reducible repeat (first | refine blk_drewN ?_ _ | refine blk_drew ?_ | refine blk_alloc ?_ _)); exact BK265.out⟩, ⟨by (iterate 9 ((with_reducible repeat (first | refine blk_drewN ?_ _ | refine blk_drew ?_ | refine blk_alloc ?_ _)); refine blk_far ?_ NB266_267.out _)); (with_reducible repeat (first | refine blk_drewN ?_ _ | refine blk_drew ?_ | refine blk_alloc ?_ _)); exact BK266.out⟩, ⟨by (with_reducible repeat (first | refine blk_drewN ?_ _ | refine blk_drew ?_ | refine blk_alloc ?_ _)); apply blk_all9_; (with_reducible repeat (first | refine blk_drewN ?_ _ | refine blk_drew ?_ | refine blk_alloc ?_ _)); exact BK267.out⟩, ⟨by repeat (first | (with_reducible first | exact HB.out | apply below_alloc | apply pw_below_drewN | apply below_drew1 | refine below_set ?_ GE265.out | refine below_set ?_ GE266.out | refine below_set ?_ GE267.out) | exact HB.out)⟩⟩
       case rest =>
        clear HC105
        try clear c1
        try clear c2
        try clear p2
        try clear c3
        try clear c4
        try clear c5
        try clear c6
        try clear c7
        try clear c8
        try clear c9
        try clear c10
        try clear c15
        try clear c15b0
        try clear c15b1
        try clear c17
        try clear c26
        try clear c26b0
        try clear c28
        try clear c30
        try clear c35
        try clear c36
        try clear c37
        try clear c39
        try clear c44
        try clear c45
        try clear c47
        try clear c52
        try clear c53
        try clear c55
        try clear c58
        try clear c58b0
        try clear c58b1
        try clear c60
        try clear c61
        try clear c62
        try clear c64
        try clear c67
        try clear c68
        try clear c70
        try clear c73
        try clear c73b0
        try clear c73b1
        try clear c75
        try clear c76
        try clear c76b0
        try clear c76b1
        try clear c77
        try clear c78
        try clear c79
        try clear c80
        try clear c84
        try clear c85
        try clear c87
        try clear c91
        try clear c92
        try clear c94
        try clear c97
        try clear c97b0
        try clear c97b1
        try clear c98
        try clear c98b0
        try clear c98b1
        try clear c99
        try clear c100
        try clear c102
        try clear c103
        try clear c106
        try clear c106b0
        try clear c106b1
        try clear C101_0 C101_1 C101_2 C101_3 C101_4 C101_5 C101_6 C101_7 C101_8
        try clear C104_0 C104_1 C104_2 C104_3 C104_4 C104_5 C104_6 C104_7 C104_8
        try clear C29_0 C29_1 C29_2 C29_3 C29_4 C29_5 C29_6 C29_7 C29_8
        try clear C31_0 C31_1 C31_2 C31_3 C31_4 C31_5 C31_6 C31_7 C31_8
        try clear C33_0 C33_1 C33_2 C33_3 C33_4 C33_5 C33_6 C33_7 C33_8
        try clear C38_0 C38_1 C38_2 C38_3 C38_4 C38_5 C38_6 C38_7 C38_8
        try clear C40_0 C40_1 C40_2 C40_3 C40_4 C40_5 C40_6 C40_7 C40_8
        try clear C42_0 C42_1 C42_2 C42_3 C42_4 C42_5 C42_6 C42_7 C42_8
        try clear C46_0 C46_1 C46_2 C46_3 C46_4 C46_5 C46_6 C46_7 C46_8
        try clear C48_0 C48_1 C48_2 C48_3 C48_4 C48_5 C48_6 C48_7 C48_8
        try clear C50_0 C50_1 C50_2 C50_3 C50_4 C50_5 C50_6 C50_7 C50_8
        try clear C54_0 C54_1 C54_2 C54_3 C54_4 C54_5 C54_6 C54_7 C54_8
        try clear C56_0 C56_1 C56_2 C56_3 C56_4 C56_5 C56_6 C56_7 C56_8
        try clear C63_0 C63_1 C63_2 C63_3 C63_4 C63_5 C63_6 C63_7 C63_8
        try clear C65_0 C65_1 C65_2 C65_3 C65_4 C65_5 C65_6 C65_7 C65_8
        try clear C69_0 C69_1 C69_2 C69_3 C69_4 C69_5 C69_6 C69_7 C69_8
        try clear C71_0 C71_1 C71_2 C71_3 C71_4 C71_5 C71_6 C71_7 C71_8
        try clear C79_0 C79_1 C79_2 C79_3 C79_4 C79_5 C79_6 C79_7 C79_8
        try clear C81_0 C81_1 C81_2 C81_3 C81_4 C81_5 C81_6 C81_7 C81_8
        try clear C83_0 C83_1 C83_2 C83_3 C83_4 C83_5 C83_6 C83_7 C83_8
        try clear C86_0 C86_1 C86_2 C86_3 C86_4 C86_5 C86_6 C86_7 C86_8
        try clear C88_0 C88_1 C88_2 C88_3 C88_4 C88_5 C88_6 C88_7 C88_8
        try clear C90_0 C90_1 C90_2 C90_3 C90_4 C90_5 C90_6 C90_7 C90_8
        try clear C93_0 C93_1 C93_2 C93_3 C93_4 C93_5 C93_6 C93_7 C93_8
        try clear C95_0 C95_1 C95_2 C95_3 C95_4 C95_5 C95_6 C95_7 C95_8
        try clear F101_0 F101_1 F101_2 F101_3 F101_4 F101_5 F101_6 F101_7 F101_8
        try clear F104_0 F104_1 F104_2 F104_3 F104_4 F104_5 F104_6 F104_7 F104_8
        try clear F29_0 F29_1 F29_2 F29_3 F29_4 F29_5 F29_6 F29_7 F29_8
        try clear F31_0 F31_1 F31_2 F31_3 F31_4 F31_5 F31_6 F31_7 F31_8
        try clear F33_0 F33_1 F33_2 F33_3 F33_4 F33_5 F33_6 F33_7 F33_8
        try clear F38_0 F38_1 F38_2 F38_3 F38_4 F38_5 F38_6 F38_7 F38_8
        try clear F40_0 F40_1 F40_2 F40_3 F40_4 F40_5 F40_6 F40_7 F40_8
        try clear F42_0 F42_1 F42_2 F42_3 F42_4 F42_5 F42_6 F42_7 F42_8
        try clear F46_0 F46_1 F46_2 F46_3 F46_4 F46_5 F46_6 F46_7 F46_8
        try clear F48_0 F48_1 F48_2 F48_3 F48_4 F48_5 F48_6 F48_7 F48_8
        try clear F50_0 F50_1 F50_2 F50_3 F50_4 F50_5 F50_6 F50_7 F50_8
        try clear F54_0 F54_1 F54_2 F54_3 F54_4 F54_5 F54_6 F54_7 F54_8
        try clear F56_0 F56_1 F56_2 F56_3 F56_4 F56_5 F56_6 F56_7 F56_8
        try clear F63_0 F63_1 F63_2 F63_3 F63_4 F63_5 F63_6 F63_7 F63_8
        try clear F65_0 F65_1 F65_2 F65_3 F65_4 F65_5 F65_6 F65_7 F65_8
        try clear F69_0 F69_1 F69_2 F69_3 F69_4 F69_5 F69_6 F69_7 F69_8
        try clear F71_0 F71_1 F71_2 F71_3 F71_4 F71_5 F71_6 F71_7 F71_8
        try clear F79_0 F79_1 F79_2 F79_3 F79_4 F79_5 F79_6 F79_7 F79_8
        try clear F81_0 F81_1 F81_2 F81_3 F81_4 F81_5 F81_6 F81_7 F81_8
        try clear F83_0 F83_1 F83_2 F83_3 F83_4 F83_5 F83_6 F83_7 F83_8
        try clear F86_0 F86_1 F86_2 F86_3 F86_4 F86_5 F86_6 F86_7 F86_8
        try clear F88_0 F88_1 F88_2 F88_3 F88_4 F88_5 F88_6 F88_7 F88_8
        try clear F90_0 F90_1 F90_2 F90_3 F90_4 F90_5 F90_6 F90_7 F90_8
        try clear F93_0 F93_1 F93_2 F93_3 F93_4 F93_5 F93_6 F93_7 F93_8
        try clear F95_0 F95_1 F95_2 F95_3 F95_4 F95_5 F95_6 F95_7 F95_8
        obtain ⟨kq, x86_104, rfl, HA, HJ104, BK265, BK266, BK267, HB⟩ := hcut
        cases kq with
        | zero => exact absurd HA.out (by simp [firkinref17_one.j0])
        | succ kj104 =>
         have H := HA.out
         clear HA
         simp only [firkinref17_one.j0] at H
         by_cases c107 : x86_104 = true
         ·subst c107
          have H1 : (if (l0_8.length : Int) < 2 then (some false) else (firkinref17_one.j1 kj104 a0_0 a0_1 a0_2 a0_3 a0_4 a0_5 a0_6 a0_7 l0_8 a0_0 a0_1 a0_2 a0_3 a0_4 a0_5 a0_6 a0_7 a0_0 (⟨#[]⟩ : ByteArray) 0 false 0 (⟨#[]⟩ : ByteArray) 0 (⟨#[]⟩ : ByteArray))) = some r := by rw [if_pos rfl] at H; exact H
          clear H
          have H := H1
          clear H1
          by_cases c108 : (l0_8.length : Int) < 2
          ·rw [if_pos c108] at H
           have c108b0 : decide ((l0_8.length : Int) < 2) = true := decide_eq_true c108
           have c108b1 : decide (l0_8.length < 2) = true := decide_eq_true (by omega)
           clear c108
           obtain rfl := Option.some.inj H
           have hnb109 := NB265_266.out
           have hnc109 := NB266_265.out
           have hnb110 := NB265_267.out
           have hnc110 := NB267_265.out
           obtain ⟨C111_0, C111_1, C111_2, C111_3, C111_4, C111_5, C111_6, C111_7, C111_8⟩ := cz9_ BK265.out
           obtain ⟨F111_0, F111_1, F111_2, F111_3, F111_4, F111_5, F111_6, F111_7, F111_8⟩ := fz9_ BK265.out
           go_wp2
           go_ret
           exact en_ HB
          ·rw [if_neg c108] at H
           have c108b0 : decide ((l0_8.length : Int) < 2) = false := decide_eq_false c108
           have c108b1 : decide (l0_8.length < 2) = false := decide_eq_false (by omega)
           clear c108
           have H' := Aside0.mk H
           clear H
           have hnb112 := NB265_266.out
           have hnc112 := NB266_265.out
           have hnb113 := NB265_267.out
           have hnc113 := NB267_265.out
           obtain ⟨C114_0, C114_1, C114_2, C114_3, C114_4, C114_5, C114_6, C114_7, C114_8⟩ := cz9_ BK265.out
           obtain ⟨F114_0, F114_1, F114_2, F114_3, F114_4, F114_5, F114_6, F114_7, F114_8⟩ := fz9_ BK265.out
           go_wp2
           go_meet
           case rel => exact ⟨_, (a0_0), ((⟨#[]⟩ : ByteArray)), (0), (false), (0), ((⟨#[]⟩ : ByteArray)), (0), ((⟨#[]⟩ : ByteArray)), H', ⟨by have := HJ104.out; first | omega | exact Nat.le_refl _⟩, ⟨by (with_reducible repeat (first | refine blk_drewN ?_ _ | refine blk_drew ?_ | refine blk_alloc ?_ _)); exact BK265.out⟩, ⟨by (with_reducible repeat (first | refine blk_drewN ?_ _ | refine blk_drew ?_ | refine blk_alloc ?_ _)); exact BK266.out⟩, ⟨by (with_reducible repeat (first | refine blk_drewN ?_ _ | refine blk_drew ?_ | refine blk_alloc ?_ _)); exact BK267.out⟩, ⟨by repeat (first | (with_reducible first | exact HB.out | apply below_alloc | apply pw_below_drewN | apply below_drew1 | refine below_set ?_ GE265.out | refine below_set ?_ GE266.out | refine below_set ?_ GE267.out) | exact HB.out)⟩⟩
         ·replace c107 := Bool.eq_false_iff.mpr c107
          subst c107
          have H1 : (some false) = some r := by rw [if_neg (show ¬ (false = true) by decide)] at H; exact H
          clear H
          have H := H1
          clear H1
          obtain rfl := Option.some.inj H
          go_wp2
          go_ret
          exact en_ HB
 case rest =>
  clear HC2
  try clear c1
  try clear c2
  try clear p2
  try clear c3
  try clear c4
  try clear c5
  try clear c6
  try clear c7
  try clear c8
  try clear c9
  try clear c10
  try clear c11
  try clear c15
  try clear c15b0
  try clear c15b1
  try clear c17
  try clear c26
  try clear c26b0
  try clear c28
  try clear c30
  try clear c35
  try clear c36
  try clear c37
  try clear c39
  try clear c44
  try clear c45
  try clear c47
  try clear c52
  try clear c53
  try clear c55
  try clear c58
  try clear c58b0
  try clear c58b1
  try clear c60
  try clear c61
  try clear c62
  try clear c64
  try clear c67
  try clear c68
  try clear c70
  try clear c73
  try clear c73b0
  try clear c73b1
  try clear c75
  try clear c76
  try clear c76b0
  try clear c76b1
  try clear c77
  try clear c78
  try clear c79
  try clear c80
  try clear c84
  try clear c85
  try clear c87
  try clear c91
  try clear c92
  try clear c94
  try clear c97
  try clear c97b0
  try clear c97b1
  try clear c98
  try clear c98b0
  try clear c98b1
  try clear c99
  try clear c100
  try clear c102
  try clear c103
  try clear c106
  try clear c106b0
  try clear c106b1
  try clear c107
  try clear c108
  try clear c108b0
  try clear c108b1
  try clear c109
  try clear c110
  try clear c112
  try clear c113
  try clear C101_0 C101_1 C101_2 C101_3 C101_4 C101_5 C101_6 C101_7 C101_8
  try clear C104_0 C104_1 C104_2 C104_3 C104_4 C104_5 C104_6 C104_7 C104_8
  try clear C111_0 C111_1 C111_2 C111_3 C111_4 C111_5 C111_6 C111_7 C111_8
  try clear C114_0 C114_1 C114_2 C114_3 C114_4 C114_5 C114_6 C114_7 C114_8
  try clear C29_0 C29_1 C29_2 C29_3 C29_4 C29_5 C29_6 C29_7 C29_8
  try clear C31_0 C31_1 C31_2 C31_3 C31_4 C31_5 C31_6 C31_7 C31_8
  try clear C33_0 C33_1 C33_2 C33_3 C33_4 C33_5 C33_6 C33_7 C33_8
  try clear C38_0 C38_1 C38_2 C38_3 C38_4 C38_5 C38_6 C38_7 C38_8
  try clear C40_0 C40_1 C40_2 C40_3 C40_4 C40_5 C40_6 C40_7 C40_8
  try clear C42_0 C42_1 C42_2 C42_3 C42_4 C42_5 C42_6 C42_7 C42_8
  try clear C46_0 C46_1 C46_2 C46_3 C46_4 C46_5 C46_6 C46_7 C46_8
  try clear C48_0 C48_1 C48_2 C48_3 C48_4 C48_5 C48_6 C48_7 C48_8
  try clear C50_0 C50_1 C50_2 C50_3 C50_4 C50_5 C50_6 C50_7 C50_8
  try clear C54_0 C54_1 C54_2 C54_3 C54_4 C54_5 C54_6 C54_7 C54_8
  try clear C56_0 C56_1 C56_2 C56_3 C56_4 C56_5 C56_6 C56_7 C56_8
  try clear C63_0 C63_1 C63_2 C63_3 C63_4 C63_5 C63_6 C63_7 C63_8
  try clear C65_0 C65_1 C65_2 C65_3 C65_4 C65_5 C65_6 C65_7 C65_8
  try clear C69_0 C69_1 C69_2 C69_3 C69_4 C69_5 C69_6 C69_7 C69_8
  try clear C71_0 C71_1 C71_2 C71_3 C71_4 C71_5 C71_6 C71_7 C71_8
  try clear C79_0 C79_1 C79_2 C79_3 C79_4 C79_5 C79_6 C79_7 C79_8
  try clear C81_0 C81_1 C81_2 C81_3 C81_4 C81_5 C81_6 C81_7 C81_8
  try clear C83_0 C83_1 C83_2 C83_3 C83_4 C83_5 C83_6 C83_7 C83_8
  try clear C86_0 C86_1 C86_2 C86_3 C86_4 C86_5 C86_6 C86_7 C86_8
  try clear C88_0 C88_1 C88_2 C88_3 C88_4 C88_5 C88_6 C88_7 C88_8
  try clear C90_0 C90_1 C90_2 C90_3 C90_4 C90_5 C90_6 C90_7 C90_8
  try clear C93_0 C93_1 C93_2 C93_3 C93_4 C93_5 C93_6 C93_7 C93_8
  try clear C95_0 C95_1 C95_2 C95_3 C95_4 C95_5 C95_6 C95_7 C95_8
  try clear F101_0 F101_1 F101_2 F101_3 F101_4 F101_5 F101_6 F101_7 F101_8
  try clear F104_0 F104_1 F104_2 F104_3 F104_4 F104_5 F104_6 F104_7 F104_8
  try clear F111_0 F111_1 F111_2 F111_3 F111_4 F111_5 F111_6 F111_7 F111_8
  try clear F114_0 F114_1 F114_2 F114_3 F114_4 F114_5 F114_6 F114_7 F114_8
  try clear F29_0 F29_1 F29_2 F29_3 F29_4 F29_5 F29_6 F29_7 F29_8
  try clear F31_0 F31_1 F31_2 F31_3 F31_4 F31_5 F31_6 F31_7 F31_8
  try clear F33_0 F33_1 F33_2 F33_3 F33_4 F33_5 F33_6 F33_7 F33_8
  try clear F38_0 F38_1 F38_2 F38_3 F38_4 F38_5 F38_6 F38_7 F38_8
  try clear F40_0 F40_1 F40_2 F40_3 F40_4 F40_5 F40_6 F40_7 F40_8
  try clear F42_0 F42_1 F42_2 F42_3 F42_4 F42_5 F42_6 F42_7 F42_8
  try clear F46_0 F46_1 F46_2 F46_3 F46_4 F46_5 F46_6 F46_7 F46_8
  try clear F48_0 F48_1 F48_2 F48_3 F48_4 F48_5 F48_6 F48_7 F48_8
  try clear F50_0 F50_1 F50_2 F50_3 F50_4 F50_5 F50_6 F50_7 F50_8
  try clear F54_0 F54_1 F54_2 F54_3 F54_4 F54_5 F54_6 F54_7 F54_8
  try clear F56_0 F56_1 F56_2 F56_3 F56_4 F56_5 F56_6 F56_7 F56_8
  try clear F63_0 F63_1 F63_2 F63_3 F63_4 F63_5 F63_6 F63_7 F63_8
  try clear F65_0 F65_1 F65_2 F65_3 F65_4 F65_5 F65_6 F65_7 F65_8
  try clear F69_0 F69_1 F69_2 F69_3 F69_4 F69_5 F69_6 F69_7 F69_8
  try clear F71_0 F71_1 F71_2 F71_3 F71_4 F71_5 F71_6 F71_7 F71_8
  try clear F79_0 F79_1 F79_2 F79_3 F79_4 F79_5 F79_6 F79_7 F79_8
  try clear F81_0 F81_1 F81_2 F81_3 F81_4 F81_5 F81_6 F81_7 F81_8
  try clear F83_0 F83_1 F83_2 F83_3 F83_4 F83_5 F83_6 F83_7 F83_8
  try clear F86_0 F86_1 F86_2 F86_3 F86_4 F86_5 F86_6 F86_7 F86_8
  try clear F88_0 F88_1 F88_2 F88_3 F88_4 F88_5 F88_6 F88_7 F88_8
  try clear F90_0 F90_1 F90_2 F90_3 F90_4 F90_5 F90_6 F90_7 F90_8
  try clear F93_0 F93_1 F93_2 F93_3 F93_4 F93_5 F93_6 F93_7 F93_8
  try clear F95_0 F95_1 F95_2 F95_3 F95_4 F95_5 F95_6 F95_7 F95_8
  obtain ⟨kq, x268000_1, x268001_1, x268002_1, x268003_1, x268004_1, x268005_1, x268006_1, x268007_1, HA, HJ1, BK265, BK266, BK267, HB⟩ := hcut
  cases kq with
  | zero => exact absurd HA.out (by simp [firkinref17_one.j1])
  | succ kj1 =>
   have H := HA.out
   clear HA
   simp only [firkinref17_one.j1] at H
   have HC115 := Aside0.mk H
   clear H
   go_upto_region 26 with (fail)
   go_cut [107] (fun v107 wc => ∃ (kq : Nat) (x107_114 : Bool), v107 = .bool x107_114 ∧ Aside0 (firkinref17_one.j2 kq x107_114 a0_0 a0_1 a0_2 a0_3 a0_4 a0_5 a0_6 a0_7 l0_8 = some r) ∧ Aside0 (kq ≤ kj1) ∧ Aside0 (wc.heap[gb265]? = some (.cells #[.int .i64 a0_0, .string a0_1, .int .i64 a0_2, .bool a0_3, .int .i64 a0_4, .string a0_5, .int .i64 a0_6, .string a0_7, (.slice A0_8 l0_8.length c0_8)] 27 (0, 0))) ∧ Aside0 (wc.heap[gb266]? = some (.cells #[.int .i64 a0_0, .string a0_1, .int .i64 a0_2, .bool a0_3, .int .i64 a0_4, .string a0_5, .int .i64 a0_6, .string a0_7, (.slice none 0 0)] 27 (0, 0))) ∧ Aside0 (wc.heap[gb267]? = some (.cells #[.int .i64 x268000_1, .string x268001_1, .int .i64 x268002_1, .bool x268003_1, .int .i64 x268004_1, .string x268005_1, .int .i64 x268006_1, .string x268007_1, (.slice none 0 0)] 27 (0, 0))) ∧ Aside0 (Below w.heap.size w wc))
   case first =>
    have H := HC115.out
    clear HC115
    by_cases c116 : a0_0 < 5
    ·rw [if_pos c116] at H
     have c116b0 : decide (a0_0 < 5) = true := decide_eq_true c116
     clear c116
     (first | rw [c116b0] | (simp only [i64_w, i32_w]; rw [c116b0]) | skip)
     by_cases c117 : (l0_8.length : Int) > 0
     ·rw [if_pos c117] at H
      have c117b0 : decide (0 < (l0_8.length : Int)) = true := decide_eq_true c117
      have c117b1 : decide (0 < l0_8.length) = true := decide_eq_true (by omega)
      clear c117
      have H' := Aside0.mk H
      clear H
      have hnb118 := NB265_266.out
      have hnc118 := NB266_265.out
      have hnb119 := NB265_267.out
      have hnc119 := NB267_265.out
      obtain ⟨C120_0, C120_1, C120_2, C120_3, C120_4, C120_5, C120_6, C120_7, C120_8⟩ := cz9_ BK265.out
      obtain ⟨F120_0, F120_1, F120_2, F120_3, F120_4, F120_5, F120_6, F120_7, F120_8⟩ := fz9_ BK265.out
      go_wp2
      go_meet
      case rel => exact ⟨_, (true), (by first | rfl | (simp; done) | (simp [*]; done)), H', ⟨by have := HJ1.out; first | omega | exact Nat.le_refl _⟩, ⟨by (with_reducible repeat (first | refine blk_drewN ?_ _ | refine blk_drew ?_ | refine blk_alloc ?_ _)); exact BK265.out⟩, ⟨by (with_reducible repeat (first | refine blk_drewN ?_ _ | refine blk_drew ?_ | refine blk_alloc ?_ _)); exact BK266.out⟩, ⟨by (with_reducible repeat (first | refine blk_drewN ?_ _ | refine blk_drew ?_ | refine blk_alloc ?_ _)); exact BK267.out⟩, ⟨by repeat (first | (with_reducible first | exact HB.out | apply below_alloc | apply pw_below_drewN | apply below_drew1 | refine below_set ?_ GE265.out | refine below_set ?_ GE266.out | refine below_set ?_ GE267.out) | exact HB.out)⟩⟩
     ·rw [if_neg c117] at H
      have c117b0 : decide (0 < (l0_8.length : Int)) = false := decide_eq_false c117
      have c117b1 : decide (0 < l0_8.length) = false := decide_eq_false (by omega)
      clear c117
      replace H := Option.bind_eq_some_iff.mp H
      obtain ⟨t272, A1210, H⟩ := H
      replace H : (firkinref17_one.j2 kj1 (!t272) a0_0 a0_1 a0_2 a0_3 a0_4 a0_5 a0_6 a0_7 l0_8) = some r := H
      have A121 := Aside0.mk A1210
      clear A1210
      have H' := Aside0.mk H
      clear H
      have hnb122 := NB265_266.out
      have hnc122 := NB266_265.out
      have hnb123 := NB265_267.out
      have hnc123 := NB267_265.out
      obtain ⟨C124_0, C124_1, C124_2, C124_3, C124_4, C124_5, C124_6, C124_7, C124_8⟩ := cz9_ BK265.out
      obtain ⟨F124_0, F124_1, F124_2, F124_3, F124_4, F124_5, F124_6, F124_7, F124_8⟩ := fz9_ BK265.out
      have hnb125 := NB266_267.out
      have hnc125 := NB267_266.out
      obtain ⟨C126_0, C126_1, C126_2, C126_3, C126_4, C126_5, C126_6, C126_7, C126_8⟩ := cz9_ BK266.out
      obtain ⟨F126_0, F126_1, F126_2, F126_3, F126_4, F126_5, F126_6, F126_7, F126_8⟩ := fz9_ BK266.out
      obtain ⟨C127_0, C127_1, C127_2, C127_3, C127_4, C127_5, C127_6, C127_7, C127_8⟩ := cz9_ BK267.out
      obtain ⟨F127_0, F127_1, F127_2, F127_3, F127_4, F127_5, F127_6, F127_7, F127_8⟩ := fz9_ BK267.out
      go_wp2_with (first | (go_at_call 98; (refine (firkinref17_flat.calls a0_0 a0_1 a0_2 a0_3 a0_4 a0_5 a0_6 a0_7 _ _ ([] : List (S27)) x268000_1 x268001_1 x268002_1 x268003_1 x268004_1 x268005_1 x268006_1 x268007_1 _ _ ([] : List (S27)) t272 _ ?side1 ?side2 ?side3 ?side4 A121.out).mono ?_); (case side1 => exact Kd.C_nil _ _); (case side2 => exact Nat.le_refl _); (case side3 => exact Kd.C_nil _ _); (case side4 => exact Nat.le_refl _); rintro e w128 ⟨rfl, hb⟩; have n0_ := Aside0.mk (blk_below (g := gb265) (o := .cells #[.int .i64 a0_0, .string a0_1, .int .i64 a0_2, .bool a0_3, .int .i64 a0_4, .string a0_5, .int .i64 a0_6, .string a0_7, .slice A0_8 l0_8.length c0_8] 27 (0, 0)) (by (with_reducible repeat (first | refine blk_drewN ?_ _ | refine blk_drew ?_ | refine blk_alloc ?_ _)); exact BK265.out) hb); have n1_ := Aside0.mk (blk_below (g := gb266) (o := .cells #[.int .i64 a0_0, .string a0_1, .int .i64 a0_2, .bool a0_3, .int .i64 a0_4, .string a0_5, .int .i64 a0_6, .string a0_7, .slice none 0 0] 27 (0, 0)) (by (with_reducible repeat (first | refine blk_drewN ?_ _ | refine blk_drew ?_ | refine blk_alloc ?_ _)); exact BK266.out) hb); have n2_ := Aside0.mk (blk_below (g := gb267) (o := .cells #[.int .i64 x268000_1, .string x268001_1, .int .i64 x268002_1, .bool x268003_1, .int .i64 x268004_1, .string x268005_1, .int .i64 x268006_1, .string x268007_1, .slice none 0 0] 27 (0, 0)) (by (with_reducible repeat (first | refine blk_drewN ?_ _ | refine blk_drew ?_ | refine blk_alloc ?_ _)); exact BK267.out) hb); have n3_ := Aside0.mk (below_step (by repeat (first | (with_reducible first | exact HB.out | apply below_alloc | apply pw_below_drewN | apply below_drew1 | refine below_set ?_ GE265.out | refine below_set ?_ GE266.out | refine below_set ?_ GE267.out) | exact HB.out)) hb); clear BK265; clear BK266; clear BK267; clear HB; have BK265 := n0_; have BK266 := n1_; have BK267 := n2_; have HB := n3_; clear n0_ n1_ n2_ n3_; (try clear hb); (try clear hb2); (try clear hk); (try clear hi)))
      go_meet
      case rel => exact ⟨_, (!t272), (by first | rfl | (simp; done) | (simp [*]; done)), H', ⟨by have := HJ1.out; first | omega | exact Nat.le_refl _⟩, ⟨by (with_reducible repeat (first | refine blk_drewN ?_ _ | refine blk_drew ?_ | refine blk_alloc ?_ _)); exact BK265.out⟩, ⟨by (with_reducible repeat (first | refine blk_drewN ?_ _ | refine blk_drew ?_ | refine blk_alloc ?_ _)); exact BK266.out⟩, ⟨by (with_reducible repeat (first | refine blk_drewN ?_ _ | refine blk_drew ?_ | refine blk_alloc ?_ _)); exact BK267.out⟩, ⟨by repeat (first | (with_reducible first | exact HB.out | apply below_alloc | apply pw_below_drewN | apply below_drew1 | refine below_set ?_ GE265.out | refine below_set ?_ GE266.out | refine below_set ?_ GE267.out) | exact HB.out)⟩⟩
    ·rw [if_neg c116] at H
     have c116b0 : decide (a0_0 < 5) = false := decide_eq_false c116
     clear c116
     (first | rw [c116b0] | (simp only [i64_w, i32_w]; rw [c116b0]) | skip)
     replace H := Option.bind_eq_some_iff.mp H
     obtain ⟨t273, A1290, H⟩ := H
     replace H : (firkinref17_one.j2 kj1 (!t273) a0_0 a0_1 a0_2 a0_3 a0_4 a0_5 a0_6 a0_7 l0_8) = some r := H
     have A129 := Aside0.mk A1290
     clear A1290
     have H' := Aside0.mk H
     clear H
     have hnb130 := NB265_266.out
     have hnc130 := NB266_265.out
     have hnb131 := NB265_267.out
     have hnc131 := NB267_265.out
     obtain ⟨C132_0, C132_1, C132_2, C132_3, C132_4, C132_5, C132_6, C132_7, C132_8⟩ := cz9_ BK265.out
     obtain ⟨F132_0, F132_1, F132_2, F132_3, F132_4, F132_5, F132_6, F132_7, F132_8⟩ := fz9_ BK265.out
     have hnb133 := NB266_267.out
     have hnc133 := NB267_266.out
     obtain ⟨C134_0, C134_1, C134_2, C134_3, C134_4, C134_5, C134_6, C134_7, C134_8⟩ := cz9_ BK266.out
     obtain ⟨F134_0, F134_1, F134_2, F134_3, F134_4, F134_5, F134_6, F134_7, F134_8⟩ := fz9_ BK266.out
     obtain ⟨C135_0, C135_1, C135_2, C135_3, C135_4, C135_5, C135_6, C135_7, C135_8⟩ := cz9_ BK267.out
     obtain ⟨F135_0, F135_1, F135_2, F135_3, F135_4, F135_5, F135_6, F135_7, F135_8⟩ := fz9_ BK267.out
     go_wp2_with (first | (go_at_call 98; (refine (firkinref17_flat.calls a0_0 a0_1 a0_2 a0_3 a0_4 a0_5 a0_6 a0_7 _ _ ([] : List (S27)) x268000_1 x268001_1 x268002_1 x268003_1 x268004_1 x268005_1 x268006_1 x268007_1 _ _ ([] : List (S27)) t273 _ ?side1 ?side2 ?side3 ?side4 A129.out).mono ?_); (case side1 => exact Kd.C_nil _ _); (case side2 => exact Nat.le_refl _); (case side3 => exact Kd.C_nil _ _); (case side4 => exact Nat.le_refl _); rintro e w136 ⟨rfl, hb⟩; have n0_ := Aside0.mk (blk_below (g := gb265) (o := .cells #[.int .i64 a0_0, .string a0_1, .int .i64 a0_2, .bool a0_3, .int .i64 a0_4, .string a0_5, .int .i64 a0_6, .string a0_7, .slice A0_8 l0_8.length c0_8] 27 (0, 0)) (by (with_reducible repeat (first | refine blk_drewN ?_ _ | refine blk_drew ?_ | refine blk_alloc ?_ _)); exact BK265.out) hb); have n1_ := Aside0.mk (blk_below (g := gb266) (o := .cells #[.int .i64 a0_0, .string a0_1, .int .i64 a0_2, .bool a0_3, .int .i64 a0_4, .string a0_5, .int .i64 a0_6, .string a0_7, .slice none 0 0] 27 (0, 0)) (by (with_reducible repeat (first | refine blk_drewN ?_ _ | refine blk_drew ?_ | refine blk_alloc ?_ _)); exact BK266.out) hb); have n2_ := Aside0.mk (blk_below (g := gb267) (o := .cells #[.int .i64 x268000_1, .string x268001_1, .int .i64 x268002_1, .bool x268003_1, .int .i64 x268004_1, .string x268005_1, .int .i64 x268006_1, .string x268007_1, .slice none 0 0] 27 (0, 0)) (by (with_reducible repeat (first | refine blk_drewN ?_ _ | refine blk_drew ?_ | refine blk_alloc ?_ _)); exact BK267.out) hb); have n3_ := Aside0.mk (below_step (by repeat (first | (with_reducible first | exact HB.out | apply below_alloc | apply pw_below_drewN | apply below_drew1 | refine below_set ?_ GE265.out | refine below_set ?_ GE266.out | refine below_set ?_ GE267.out) | exact HB.out)) hb); clear BK265; clear BK266; clear BK267; clear HB; have BK265 := n0_; have BK266 := n1_; have BK267 := n2_; have HB := n3_; clear n0_ n1_ n2_ n3_; (try clear hb); (try clear hb2); (try clear hk); (try clear hi)))
     go_meet
     case rel => exact ⟨_, (!t273), (by first | rfl | (simp; done) | (simp [*]; done)), H', ⟨by have := HJ1.out; first | omega | exact Nat.le_refl _⟩, ⟨by (with_reducible repeat (first | refine blk_drewN ?_ _ | refine blk_drew ?_ | refine blk_alloc ?_ _)); exact BK265.out⟩, ⟨by (with_reducible repeat (first | refine blk_drewN ?_ _ | refine blk_drew ?_ | refine blk_alloc ?_ _)); exact BK266.out⟩, ⟨by (with_reducible repeat (first | refine blk_drewN ?_ _ | refine blk_drew ?_ | refine blk_alloc ?_ _)); exact BK267.out⟩, ⟨by repeat (first | (with_reducible first | exact HB.out | apply below_alloc | apply pw_below_drewN | apply below_drew1 | refine below_set ?_ GE265.out | refine below_set ?_ GE266.out | refine below_set ?_ GE267.out) | exact HB.out)⟩⟩
   case rest =>
    clear HC115
    try clear c1
    try clear p2
    try clear c11
    try clear c12
    try clear c13
    try clear c116
    try clear c116b0
    try clear c117
    try clear c117b0
    try clear c117b1
    try clear c118
    try clear c119
    try clear c122
    try clear c123
    try clear c125
    try clear c130
    try clear c131
    try clear c133
    try clear C120_0 C120_1 C120_2 C120_3 C120_4 C120_5 C120_6 C120_7 C120_8
    try clear C124_0 C124_1 C124_2 C124_3 C124_4 C124_5 C124_6 C124_7 C124_8
    try clear C126_0 C126_1 C126_2 C126_3 C126_4 C126_5 C126_6 C126_7 C126_8
    try clear C127_0 C127_1 C127_2 C127_3 C127_4 C127_5 C127_6 C127_7 C127_8
    try clear C132_0 C132_1 C132_2 C132_3 C132_4 C132_5 C132_6 C132_7 C132_8
    try clear C134_0 C134_1 C134_2 C134_3 C134_4 C134_5 C134_6 C134_7 C134_8
    try clear C135_0 C135_1 C135_2 C135_3 C135_4 C135_5 C135_6 C135_7 C135_8
    try clear C42_6
    try clear C42_7
    try clear C42_8
    try clear C46_0 C46_1 C46_2 C46_3 C46_4 C46_5 C46_6 C46_7 C46_8
    try clear C48_0 C48_1 C48_2 C48_3 C48_4 C48_5 C48_6 C48_7 C48_8
    try clear C50_0 C50_1 C50_2 C50_3 C50_4 C50_5 C50_6 C50_7 C50_8
    try clear C54_0 C54_1 C54_2 C54_3 C54_4 C54_5 C54_6 C54_7 C54_8
    try clear C56_0 C56_1 C56_2 C56_3 C56_4 C56_5 C56_6 C56_7 C56_8
    try clear C63_0 C63_1 C63_2 C63_3 C63_4 C63_5 C63_6 C63_7 C63_8
    try clear C65_0 C65_1 C65_2 C65_3 C65_4 C65_5 C65_6 C65_7 C65_8
    try clear C69_0 C69_1 C69_2 C69_3 C69_4 C69_5 C69_6 C69_7 C69_8
    try clear C71_0 C71_1 C71_2 C71_3 C71_4 C71_5 C71_6 C71_7 C71_8
    try clear C79_0 C79_1 C79_2 C79_3 C79_4 C79_5 C79_6 C79_7 C79_8
    try clear C81_0 C81_1 C81_2 C81_3 C81_4 C81_5 C81_6 C81_7 C81_8
    try clear C83_0 C83_1 C83_2 C83_3 C83_4 C83_5 C83_6 C83_7 C83_8
    try clear C86_0 C86_1 C86_2 C86_3 C86_4 C86_5 C86_6 C86_7 C86_8
    try clear C88_0 C88_1 C88_2 C88_3 C88_4 C88_5 C88_6 C88_7 C88_8
    try clear C90_0 C90_1 C90_2 C90_3 C90_4 C90_5 C90_6 C90_7 C90_8
    try clear C93_0 C93_1 C93_2 C93_3 C93_4 C93_5 C93_6 C93_7 C93_8
    try clear C95_0 C95_1 C95_2 C95_3 C95_4 C95_5 C95_6 C95_7 C95_8
    try clear F101_0 F101_1 F101_2 F101_3 F101_4 F101_5 F101_6 F101_7 F101_8
    try clear F104_0 F104_1 F104_2 F104_3 F104_4 F104_5 F104_6 F104_7 F104_8
    try clear F111_0 F111_1 F111_2 F111_3 F111_4 F111_5 F111_6 F111_7 F111_8
    try clear F114_0 F114_1 F114_2 F114_3 F114_4 F114_5 F114_6 F114_7 F114_8
    try clear F120_0 F120_1 F120_2 F120_3 F120_4 F120_5 F120_6 F120_7 F120_8
    try clear F124_0 F124_1 F124_2 F124_3 F124_4 F124_5 F124_6 F124_7 F124_8
    try clear F126_0 F126_1 F126_2 F126_3 F126_4 F126_5 F126_6 F126_7 F126_8
    try clear F127_0 F127_1 F127_2 F127_3 F127_4 F127_5 F127_6 F127_7 F127_8
    try clear F132_0 F132_1 F132_2 F132_3 F132_4 F132_5 F132_6 F132_7 F132_8
    try clear F134_0 F134_1 F134_2 F134_3 F134_4 F134_5 F134_6 F134_7 F134_8
    try clear F135_0 F135_1 F135_2 F135_3 F135_4 F135_5 F135_6 F135_7 F135_8
    try clear F29_0 F29_1 F29_2 F29_3 F29_4 F29_5 F29_6 F29_7 F29_8
    try clear F31_0 F31_1 F31_2 F31_3 F31_4 F31_5 F31_6 F31_7 F31_8
    try clear F33_0 F33_1 F33_2 F33_3 F33_4 F33_5 F33_6 F33_7 F33_8
    try clear F38_0 F38_1 F38_2 F38_3 F38_4 F38_5 F38_6 F38_7 F38_8
    try clear F40_0 F40_1 F40_2 F40_3 F40_4 F40_5 F40_6 F40_7 F40_8
    try clear F42_0 F42_1 F42_2 F42_3 F42_4 F42_5 F42_6 F42_7 F42_8
    try clear F46_0 F46_1 F46_2 F46_3 F46_4 F46_5 F46_6 F46_7 F46_8
    try clear F48_0 F48_1 F48_2 F48_3 F48_4 F48_5 F48_6 F48_7 F48_8
    try clear F50_0 F50_1 F50_2 F50_3 F50_4 F50_5 F50_6 F50_7 F50_8
    try clear F54_0 F54_1 F54_2 F54_3 F54_4 F54_5 F54_6 F54_7 F54_8
    try clear F56_0 F56_1 F56_2 F56_3 F56_4 F56_5 F56_6 F56_7 F56_8
    try clear F63_0 F63_1 F63_2 F63_3 F63_4 F63_5 F63_6 F63_7 F63_8
    try clear F65_0 F65_1 F65_2 F65_3 F65_4 F65_5 F65_6 F65_7 F65_8
    try clear F69_0 F69_1 F69_2 F69_3 F69_4 F69_5 F69_6 F69_7 F69_8
    try clear F71_0 F71_1 F71_2 F71_3 F71_4 F71_5 F71_6 F71_7 F71_8
    try clear F79_0 F79_1 F79_2 F79_3 F79_4 F79_5 F79_6 F79_7 F79_8
    try clear F81_0 F81_1 F81_2 F81_3 F81_4 F81_5 F81_6 F81_7 F81_8
    try clear F83_0 F83_1 F83_2 F83_3 F83_4 F83_5 F83_6 F83_7 F83_8
    try clear F86_0 F86_1 F86_2 F86_3 F86_4 F86_5 F86_6 F86_7 F86_8
    try clear F88_0 F88_1 F88_2 F88_3 F88_4 F88_5 F88_6 F88_7 F88_8
    try clear F90_0 F90_1 F90_2 F90_3 F90_4 F90_5 F90_6 F90_7 F90_8
    try clear F93_0 F93_1 F93_2 F93_3 F93_4 F93_5 F93_6 F93_7 F93_8
    try clear F95_0 F95_1 F95_2 F95_3 F95_4 F95_5 F95_6 F95_7 F95_8
    obtain ⟨kq, x107_114, rfl, HA, HJ114, BK265, BK266, BK267, HB⟩ := hcut
    cases kq with
    | zero => exact absurd HA.out (by simp [firkinref17_one.j2])
    | succ kj114 =>
     have H := HA.out
     clear HA
     simp only [firkinref17_one.j2] at H
     by_cases c137 : x107_114 = true
     ·subst c137
      have H1 : (some false) = some r := by rw [if_pos rfl] at H; exact H
      clear H
      have H := H1
      clear H1
      obtain rfl := Option.some.inj H
      go_wp2
      go_ret
      exact en_ HB
     ·replace c137 := Bool.eq_false_iff.mpr c137
      subst c137
      have H1 : (firkinref17_one.l0 kj114 0 a0_0 a0_1 a0_2 a0_3 a0_4 a0_5 a0_6 a0_7 l0_8) = some r := by rw [if_neg (show ¬ (false = true) by decide)] at H; exact H
      clear H
      have H := H1
      clear H1
      have H' := Aside0.mk H
      clear H
      go_wp2
      go_loopg [5] kj114 (fun kq v5 w' => ∃ (x5_3 : Int), v5 = .int .i64 x5_3 ∧ Aside0 (firkinref17_one.l0 kq x5_3 a0_0 a0_1 a0_2 a0_3 a0_4 a0_5 a0_6 a0_7 l0_8 = some r) ∧ Aside0 (kq ≤ kj114) ∧ Aside0 (w'.heap[gb265]? = some (.cells #[.int .i64 a0_0, .string a0_1, .int .i64 a0_2, .bool a0_3, .int .i64 a0_4, .string a0_5, .int .i64 a0_6, .string a0_7, (.slice A0_8 l0_8.length c0_8)] 27 (0, 0))) ∧ Aside0 (w'.heap[gb266]? = some (.cells #[.int .i64 a0_0, .string a0_1, .int .i64 a0_2, .bool a0_3, .int .i64 a0_4, .string a0_5, .int .i64 a0_6, .string a0_7, (.slice none 0 0)] 27 (0, 0))) ∧ Aside0 (w'.heap[gb267]? = some (.cells #[.int .i64 x268000_1, .string x268001_1, .int .i64 x268002_1, .bool x268003_1, .int .i64 x268004_1, .string x268005_1, .int .i64 x268006_1, .string x268007_1, (.slice none 0 0)] 27 (0, 0))) ∧ Aside0 (Below w.heap.size w w'))
      case atStart => exact ⟨(0), (by first | rfl | (simp; done) | (simp [*]; done)), H', ⟨Nat.le_refl _⟩, ⟨by (with_reducible repeat (first | refine blk_drewN ?_ _ | refine blk_drew ?_ | refine blk_alloc ?_ _)); exact BK265.out⟩, ⟨by (with_reducible repeat (first | refine blk_drewN ?_ _ | refine blk_drew ?_ | refine blk_alloc ?_ _)); exact BK266.out⟩, ⟨by (with_reducible repeat (first | refine blk_drewN ?_ _ | refine blk_drew ?_ | refine blk_alloc ?_ _)); exact BK267.out⟩, ⟨by repeat (first | (with_reducible first | exact HB.out | apply below_alloc | apply pw_below_drewN | apply below_drew1 | refine below_set ?_ GE265.out | refine below_set ?_ GE266.out | refine below_set ?_ GE267.out) | exact HB.out)⟩⟩
      case round =>
       clear H'
       try clear c1
       try clear p2
       try clear c11
       try clear c12
       try clear c13
       try clear c116
       try clear c116b0
       try clear c117
       try clear c117b0
       try clear c117b1
       try clear c118
       try clear c119
       try clear c122
       try clear c123
       try clear c125
       try clear c130
       try clear c131
       try clear c133
       try clear c137
       try clear C120_0 C120_1 C120_2 C120_3 C120_4 C120_5 C120_6 C120_7 C120_8
       try clear C124_0 C124_1 C124_2 C124_3 C124_4 C124_5 C124_6 C124_7 C124_8
       try clear C126_0 C126_1 C126_2 C126_3 C126_4 C126_5 C126_6 C126_7 C126_8
       try clear C127_0 C127_1 C127_2 C127_3 C127_4 C127_5 C127_6 C127_7 C127_8
       try clear C132_0 C132_1 C132_2 C132_3 C132_4 C132_5 C132_6 C132_7 C132_8
       try clear C134_0 C134_1 C134_2 C134_3 C134_4 C134_5 C134_6 C134_7 C134_8
       try clear C135_0 C135_1 C135_2 C135_3 C135_4 C135_5 C135_6 C135_7 C135_8
       try clear C42_6
       try clear C42_7
       try clear C42_8
       try clear C46_0 C46_1 C46_2 C46_3 C46_4 C46_5 C46_6 C46_7 C46_8
       try clear C48_0 C48_1 C48_2 C48_3 C48_4 C48_5 C48_6 C48_7 C48_8
       try clear C50_0 C50_1 C50_2 C50_3 C50_4 C50_5 C50_6 C50_7 C50_8
       try clear C54_0 C54_1 C54_2 C54_3 C54_4 C54_5 C54_6 C54_7 C54_8
       try clear C56_0 C56_1 C56_2 C56_3 C56_4 C56_5 C56_6 C56_7 C56_8
       try clear C63_0 C63_1 C63_2 C63_3 C63_4 C63_5 C63_6 C63_7 C63_8
       try clear C65_0 C65_1 C65_2 C65_3 C65_4 C65_5 C65_6 C65_7 C65_8
       try clear C69_0 C69_1 C69_2 C69_3 C69_4 C69_5 C69_6 C69_7 C69_8
       try clear C71_0 C71_1 C71_2 C71_3 C71_4 C71_5 C71_6 C71_7 C71_8
       try clear C79_0 C79_1 C79_2 C79_3 C79_4 C79_5 C79_6 C79_7 C79_8
       try clear C81_0 C81_1 C81_2 C81_3 C81_4 C81_5 C81_6 C81_7 C81_8
       try clear C83_0 C83_1 C83_2 C83_3 C83_4 C83_5 C83_6 C83_7 C83_8
       try clear C86_0 C86_1 C86_2 C86_3 C86_4 C86_5 C86_6 C86_7 C86_8
       try clear C88_0 C88_1 C88_2 C88_3 C88_4 C88_5 C88_6 C88_7 C88_8
       try clear C90_0 C90_1 C90_2 C90_3 C90_4 C90_5 C90_6 C90_7 C90_8
       try clear C93_0 C93_1 C93_2 C93_3 C93_4 C93_5 C93_6 C93_7 C93_8
       try clear C95_0 C95_1 C95_2 C95_3 C95_4 C95_5 C95_6 C95_7 C95_8
       try clear F101_0 F101_1 F101_2 F101_3 F101_4 F101_5 F101_6 F101_7 F101_8
       try clear F104_0 F104_1 F104_2 F104_3 F104_4 F104_5 F104_6 F104_7 F104_8
       try clear F111_0 F111_1 F111_2 F111_3 F111_4 F111_5 F111_6 F111_7 F111_8
       try clear F114_0 F114_1 F114_2 F114_3 F114_4 F114_5 F114_6 F114_7 F114_8
       try clear F120_0 F120_1 F120_2 F120_3 F120_4 F120_5 F120_6 F120_7 F120_8
       try clear F124_0 F124_1 F124_2 F124_3 F124_4 F124_5 F124_6 F124_7 F124_8
       try clear F126_0 F126_1 F126_2 F126_3 F126_4 F126_5 F126_6 F126_7 F126_8
       try clear F127_0 F127_1 F127_2 F127_3 F127_4 F127_5 F127_6 F127_7 F127_8
       try clear F132_0 F132_1 F132_2 F132_3 F132_4 F132_5 F132_6 F132_7 F132_8
       try clear F134_0 F134_1 F134_2 F134_3 F134_4 F134_5 F134_6 F134_7 F134_8
       try clear F135_0 F135_1 F135_2 F135_3 F135_4 F135_5 F135_6 F135_7 F135_8
       try clear F29_0 F29_1 F29_2 F29_3 F29_4 F29_5 F29_6 F29_7 F29_8
       try clear F31_0 F31_1 F31_2 F31_3 F31_4 F31_5 F31_6 F31_7 F31_8
       try clear F33_0 F33_1 F33_2 F33_3 F33_4 F33_5 F33_6 F33_7 F33_8
       try clear F38_0 F38_1 F38_2 F38_3 F38_4 F38_5 F38_6 F38_7 F38_8
       try clear F40_0 F40_1 F40_2 F40_3 F40_4 F40_5 F40_6 F40_7 F40_8
       try clear F42_0 F42_1 F42_2 F42_3 F42_4 F42_5 F42_6 F42_7 F42_8
       try clear F46_0 F46_1 F46_2 F46_3 F46_4 F46_5 F46_6 F46_7 F46_8
       try clear F48_0 F48_1 F48_2 F48_3 F48_4 F48_5 F48_6 F48_7 F48_8
       try clear F50_0 F50_1 F50_2 F50_3 F50_4 F50_5 F50_6 F50_7 F50_8
       try clear F54_0 F54_1 F54_2 F54_3 F54_4 F54_5 F54_6 F54_7 F54_8
       try clear F56_0 F56_1 F56_2 F56_3 F56_4 F56_5 F56_6 F56_7 F56_8
       try clear F63_0 F63_1 F63_2 F63_3 F63_4 F63_5 F63_6 F63_7 F63_8
       try clear F65_0 F65_1 F65_2 F65_3 F65_4 F65_5 F65_6 F65_7 F65_8
       try clear F69_0 F69_1 F69_2 F69_3 F69_4 F69_5 F69_6 F69_7 F69_8
       try clear F71_0 F71_1 F71_2 F71_3 F71_4 F71_5 F71_6 F71_7 F71_8
       try clear F79_0 F79_1 F79_2 F79_3 F79_4 F79_5 F79_6 F79_7 F79_8
       try clear F81_0 F81_1 F81_2 F81_3 F81_4 F81_5 F81_6 F81_7 F81_8
       try clear F83_0 F83_1 F83_2 F83_3 F83_4 F83_5 F83_6 F83_7 F83_8
       try clear F86_0 F86_1 F86_2 F86_3 F86_4 F86_5 F86_6 F86_7 F86_8
       try clear F88_0 F88_1 F88_2 F88_3 F88_4 F88_5 F88_6 F88_7 F88_8
       try clear F90_0 F90_1 F90_2 F90_3 F90_4 F90_5 F90_6 F90_7 F90_8
       try clear F93_0 F93_1 F93_2 F93_3 F93_4 F93_5 F93_6 F93_7 F93_8
       try clear F95_0 F95_1 F95_2 F95_3 F95_4 F95_5 F95_6 F95_7 F95_8
       try clear p2
       obtain ⟨x5_3, rfl, HA, HK3, BK265, BK266, BK267, HB⟩ := hrel
       cases gk with
       | zero => exact absurd HA.out (by simp [firkinref17_one.l0])
       | succ k3 =>
        have H := HA.out
        clear HA
        simp only [firkinref17_one.l0] at H
        by_cases c138 : x5_3 < (l0_8.length : Int)
        ·rw [if_pos c138] at H
         have c138b0 : decide (x5_3 < (l0_8.length : Int)) = true := decide_eq_true c138
         clear c138
         by_cases c139 : 0 ≤ x5_3
         ·rw [if_pos c139] at H
          have c139b0 : decide (0 ≤ x5_3) = true := decide_eq_true c139
          clear c139
          replace H := Option.bind_eq_some_iff.mp H
          obtain ⟨t275, A1400, H⟩ := H
          replace H : (if t275 = true then (if a0_0 ≥ 6 then (if ((rd_T27 l0_8 x5_3).f0) = a0_0 then (some false) else (firkinref17_one.l0 k3 (wrap64 (x5_3 + 1)) a0_0 a0_1 a0_2 a0_3 a0_4 a0_5 a0_6 a0_7 l0_8)) else (firkinref17_one.l0 k3 (wrap64 (x5_3 + 1)) a0_0 a0_1 a0_2 a0_3 a0_4 a0_5 a0_6 a0_7 l0_8)) else (some false)) = some r := H
          have A140 := Aside0.mk A1400
          clear A1400
          by_cases c141 : t275 = true
          ·subst c141
           have H1 : (if a0_0 ≥ 6 then (if ((rd_T27 l0_8 x5_3).f0) = a0_0 then (some false) else (firkinref17_one.l0 k3 (wrap64 (x5_3 + 1)) a0_0 a0_1 a0_2 a0_3 a0_4 a0_5 a0_6 a0_7 l0_8)) else (firkinref17_one.l0 k3 (wrap64 (x5_3 + 1)) a0_0 a0_1 a0_2 a0_3 a0_4 a0_5 a0_6 a0_7 l0_8)) = some r := by rw [if_pos rfl] at H; exact H
           clear H
           have H := H1
           clear H1
           by_cases c142 : a0_0 ≥ 6
           ·rw [if_pos c142] at H
            have c142b0 : decide (6 ≤ a0_0) = true := decide_eq_true c142
            clear c142
            by_cases c143 : ((rd_T27 l0_8 x5_3).f0) = a0_0
            ·rw [if_pos c143] at H
             have c143b0 : (((rd_T27 l0_8 x5_3).f0) == a0_0) = true := beq_iff_eq.mpr c143
             have c143b1 : (((rd_T27 l0_8 x5_3).f0) != a0_0) = false := bne_eq_false_iff_eq.mpr c143
             clear c143
             obtain rfl := Option.some.inj H
             have hnb144 := NB265_266.out
             have hnc144 := NB266_265.out
             have hnb145 := NB265_267.out
             have hnc145 := NB267_265.out
             obtain ⟨C146_0, C146_1, C146_2, C146_3, C146_4, C146_5, C146_6, C146_7, C146_8⟩ := cz9_ BK265.out
             obtain ⟨F146_0, F146_1, F146_2, F146_3, F146_4, F146_5, F146_6, F146_7, F146_8⟩ := fz9_ BK265.out
             try go_wp2
             have n0_ := Aside0.mk (blk_drew BK265.out)
             have n1_ := Aside0.mk (blk_drew BK266.out)
             have n2_ := Aside0.mk (blk_drew BK267.out)
             have n3_ := Aside0.mk (below_drew1 HB.out)
             clear BK265
             clear BK266
             clear BK267
             clear HB
             have BK265 := n0_
             have BK266 := n1_
             have BK267 := n2_
             have HB := n3_
             clear n0_ n1_ n2_ n3_
             have p274 : 0 ≤ (x5_3 : Int) := dt_
             have q274 : x5_3 < (l0_8.length : Int) := dt_
             obtain ⟨ad274, A274_8, c274_8, e274, hx274_0, hx274_1, hx274_2, hx274_3, hx274_4, hx274_5, hx274_6, hx274_7, hx274_8, hl274_8, hi274_8⟩ := at_T27 HR0_8.out x5_3 p274 q274
             have hw274_8 := hx274_8
             have hw274_7 := hx274_7
             have hw274_6 := hx274_6
             have hw274_5 := hx274_5
             have hw274_4 := hx274_4
             have hw274_3 := hx274_3
             have hw274_2 := hx274_2
             have hw274_1 := hx274_1
             have hw274_0 := hx274_0
             cases e274
             replace hx274_0 := hc_ HB hx274_0
             replace hx274_1 := hc_ HB hx274_1
             replace hx274_2 := hc_ HB hx274_2
             replace hx274_3 := hc_ HB hx274_3
             replace hx274_4 := hc_ HB hx274_4
             replace hx274_5 := hc_ HB hx274_5
             replace hx274_6 := hc_ HB hx274_6
             replace hx274_7 := hc_ HB hx274_7
             replace hx274_8 := hc_ HB hx274_8
             have HR274_8 := Aside0.mk hi274_8
             have HC274_8 := Aside0.mk hl274_8
             clear hi274_8 hl274_8
             replace p274 := eq_true p274
             replace q274 := eq_true q274
             have p276 : 0 ≤ (x5_3 : Int) := dt_
             have q276 : x5_3 < (l0_8.length : Int) := dt_
             obtain ⟨ad276, A276_8, c276_8, e276, hx276_0, hx276_1, hx276_2, hx276_3, hx276_4, hx276_5, hx276_6, hx276_7, hx276_8, hl276_8, hi276_8⟩ := at_T27 HR0_8.out x5_3 p276 q276
             have hw276_8 := hx276_8
             have hw276_7 := hx276_7
             have hw276_6 := hx276_6
             have hw276_5 := hx276_5
             have hw276_4 := hx276_4
             have hw276_3 := hx276_3
             have hw276_2 := hx276_2
             have hw276_1 := hx276_1
             have hw276_0 := hx276_0
             obtain rfl : ad274 = ad276 := (by injection e276)
             replace hx276_0 := hc_ HB hx276_0
             replace hx276_1 := hc_ HB hx276_1
             replace hx276_2 := hc_ HB hx276_2
             replace hx276_3 := hc_ HB hx276_3
             replace hx276_4 := hc_ HB hx276_4
             replace hx276_5 := hc_ HB hx276_5
             replace hx276_6 := hc_ HB hx276_6
             replace hx276_7 := hc_ HB hx276_7
             replace hx276_8 := hc_ HB hx276_8
             have HR276_8 := Aside0.mk hi276_8
             have HC276_8 := Aside0.mk hl276_8
             clear hi276_8 hl276_8
             replace p276 := eq_true p276
             replace q276 := eq_true q276
             refine start_ (n := 23) (S := fun w' => w'.cell? ⟨gb265, 0, none⟩ = some (.int .i64 a0_0) ∧ w'.cell? ⟨gb265, 1, none⟩ = some (.string a0_1) ∧ w'.cell? ⟨gb265, 2, none⟩ = some (.int .i64 a0_2) ∧ w'.cell? ⟨gb265, 3, none⟩ = some (.bool a0_3) ∧ w'.cell? ⟨gb265, 4, none⟩ = some (.int .i64 a0_4) ∧ w'.cell? ⟨gb265, 5, none⟩ = some (.string a0_5) ∧ w'.cell? ⟨gb265, 6, none⟩ = some (.int .i64 a0_6) ∧ w'.cell? ⟨gb265, 7, none⟩ = some (.string a0_7) ∧ w'.cell? ⟨gb265, 8, none⟩ = some (.slice (some ad274) l0_8.length c0_8) ∧ w'.cell? (ad274.add ((x5_3).toNat * 9)) = some (.int .i64 ((rd_T27 l0_8 x5_3).f0)) ∧ w'.cell? ⟨(ad274.add ((x5_3).toNat * 9)).block, (ad274.add ((x5_3).toNat * 9)).off + 1, none⟩ = some (.string ((rd_T27 l0_8 x5_3).f1)) ∧ w'.cell? ⟨(ad274.add ((x5_3).toNat * 9)).block, (ad274.add ((x5_3).toNat * 9)).off + 2, none⟩ = some (.int .i64 ((rd_T27 l0_8 x5_3).f2)) ∧ w'.cell? ⟨(ad274.add ((x5_3).toNat * 9)).block, (ad274.add ((x5_3).toNat * 9)).off + 3, none⟩ = some (.bool ((rd_T27 l0_8 x5_3).f3.f0)) ∧ w'.cell? ⟨(ad274.add ((x5_3).toNat * 9)).block, (ad274.add ((x5_3).toNat * 9)).off + 4, none⟩ = some (.int .i64 ((rd_T27 l0_8 x5_3).f3.f1)) ∧ w'.cell? ⟨(ad274.add ((x5_3).toNat * 9)).block, (ad274.add ((x5_3).toNat * 9)).off + 5, none⟩ = some (.string ((rd_T27 l0_8 x5_3).f3.f2)) ∧ w'.cell? ⟨(ad274.add ((x5_3).toNat * 9)).block, (ad274.add ((x5_3).toNat * 9)).off + 6, none⟩ = some (.int .i64 ((rd_T27 l0_8 x5_3).f4)) ∧ w'.cell? ⟨(ad274.add ((x5_3).toNat * 9)).block, (ad274.add ((x5_3).toNat * 9)).off + 7, none⟩ = some (.string ((rd_T27 l0_8 x5_3).f5)) ∧ w'.cell? ⟨(ad274.add ((x5_3).toNat * 9)).block, (ad274.add ((x5_3).toNat * 9)).off + 8, none⟩ = some (.slice A274_8 ((rd_T27 l0_8 x5_3).f6).length c274_8) ∧ w'.cell? (ad274.add ((x5_3).toNat * 9)) = some (.int .i64 ((rd_T27 l0_8 x5_3).f0)) ∧ w'.cell? ⟨(ad274.add ((x5_3).toNat * 9)).block, (ad274.add ((x5_3).toNat * 9)).off + 1, none⟩ = some (.string ((rd_T27 l0_8 x5_3).f1)) ∧ w'.cell? ⟨(ad274.add ((x5_3).toNat * 9)).block, (ad274.add ((x5_3).toNat * 9)).off + 2, none⟩ = some (.int .i64 ((rd_T27 l0_8 x5_3).f2)) ∧ w'.cell? ⟨(ad274.add ((x5_3).toNat * 9)).block, (ad274.add ((x5_3).toNat * 9)).off + 3, none⟩ = some (.bool ((rd_T27 l0_8 x5_3).f3.f0)) ∧ w'.cell? ⟨(ad274.add ((x5_3).toNat * 9)).block, (ad274.add ((x5_3).toNat * 9)).off + 4, none⟩ = some (.int .i64 ((rd_T27 l0_8 x5_3).f3.f1)) ∧ w'.cell? ⟨(ad274.add ((x5_3).toNat * 9)).block, (ad274.add ((x5_3).toNat * 9)).off + 5, none⟩ = some (.string ((rd_T27 l0_8 x5_3).f3.f2)) ∧ w'.cell? ⟨(ad274.add ((x5_3).toNat * 9)).block, (ad274.add ((x5_3).toNat * 9)).off + 6, none⟩ = some (.int .i64 ((rd_T27 l0_8 x5_3).f4)) ∧ w'.cell? ⟨(ad274.add ((x5_3).toNat * 9)).block, (ad274.add ((x5_3).toNat * 9)).off + 7, none⟩ = some (.string ((rd_T27 l0_8 x5_3).f5)) ∧ w'.cell? ⟨(ad274.add ((x5_3).toNat * 9)).block, (ad274.add ((x5_3).toNat * 9)).off + 8, none⟩ = some (.slice A276_8 ((rd_T27 l0_8 x5_3).f6).length c276_8)) (ds := []) #[false, false, false, false, false, false, false, false, false, false, false, false, false, false, false, false, false, false, false, false, false, false, false] (by kernel_rfl) rfl rfl ⟨(blk_cell BK265.out 0).trans rfl, (blk_cell BK265.out 1).trans rfl, (blk_cell BK265.out 2).trans rfl, (blk_cell BK265.out 3).trans rfl, (blk_cell BK265.out 4).trans rfl, (blk_cell BK265.out 5).trans rfl, (blk_cell BK265.out 6).trans rfl, (blk_cell BK265.out 7).trans rfl, (blk_cell BK265.out 8).trans rfl, ((HB.out.cell (World.block_lt_of_cell? w _ hw274_0)).trans hw274_0), ((HB.out.cell (World.block_lt_of_cell? w _ hw274_1)).trans hw274_1), ((HB.out.cell (World.block_lt_of_cell? w _ hw274_2)).trans hw274_2), ((HB.out.cell (World.block_lt_of_cell? w _ hw274_3)).trans hw274_3), ((HB.out.cell (World.block_lt_of_cell? w _ hw274_4)).trans hw274_4), ((HB.out.cell (World.block_lt_of_cell? w _ hw274_5)).trans hw274_5), ((HB.out.cell (World.block_lt_of_cell? w _ hw274_6)).trans hw274_6), ((HB.out.cell (World.block_lt_of_cell? w _ hw274_7)).trans hw274_7), ((HB.out.cell (World.block_lt_of_cell? w _ hw274_8)).trans hw274_8), ((HB.out.cell (World.block_lt_of_cell? w _ hw276_0)).trans hw276_0), ((HB.out.cell (World.block_lt_of_cell? w _ hw276_1)).trans hw276_1), ((HB.out.cell (World.block_lt_of_cell? w _ hw276_2)).trans hw276_2), ((HB.out.cell (World.block_lt_of_cell? w _ hw276_3)).trans hw276_3), ((HB.out.cell (World.block_lt_of_cell? w _ hw276_4)).trans hw276_4), ((HB.out.cell (World.block_lt_of_cell? w _ hw276_5)).trans hw276_5), ((HB.out.cell (World.block_lt_of_cell? w _ hw276_6)).trans hw276_6), ((HB.out.cell (World.block_lt_of_cell? w _ hw276_7)).trans hw276_7), ((HB.out.cell (World.block_lt_of_cell? w _ hw276_8)).trans hw276_8)⟩ (fun hHeld => ?_); refine with_tabW firkinref17_one.tab31 firkinref17_one.bits31 (fun HT_ HW_ => ?_)
             generalize wr.drew = w147 at BK265 BK266 BK267 HB HR274_8 HR276_8 hx274_0 hx274_1 hx274_2 hx274_3 hx274_4 hx274_5 hx274_6 hx274_7 hx274_8 hx276_0 hx276_1 hx276_2 hx276_3 hx276_4 hx276_5 hx276_6 hx276_7 hx276_8 hHeld ⊢
             refine pu_ 0 (some 115) (bl_ 23 1) ?_
             refine pu_ 2 (some 117) (bl_ 23 5) ?_
             refine ta_ 1 (some 116) (bl_ 23 7) hHeld ?_
             refine pu_ 3 (some 118) (bl_ 23 15) ?_
             refine ta_ 4 (some 119) (bl_ 23 31) hHeld ?_
             refine one_ (i := 5) (N := some 120) #[true, true, true, true, true, true, false, false, false, false, false, false, false, false, false, false, false, false, false, false, false, false, false] rfl rfl (one_of HT_.out (by kernel_rfl)) (by decide) (fun K hK => ?_)
             refine gs_ Try.func78 #[.agg #[.int .i64 ((rd_T27 l0_8 x5_3).f0), .string ((rd_T27 l0_8 x5_3).f1), .int .i64 ((rd_T27 l0_8 x5_3).f2), .bool ((rd_T27 l0_8 x5_3).f3.f0), .int .i64 ((rd_T27 l0_8 x5_3).f3.f1), .string ((rd_T27 l0_8 x5_3).f3.f2), .int .i64 ((rd_T27 l0_8 x5_3).f4), .string ((rd_T27 l0_8 x5_3).f5), .slice A274_8 ((rd_T27 l0_8 x5_3).f6).length c274_8]] ?_
             with_reducible refine (ih k3 (by have := HJ1.out; have := HJ114.out; have := HK3.out; omega) ((rd_T27 l0_8 x5_3).f0) ((rd_T27 l0_8 x5_3).f1) ((rd_T27 l0_8 x5_3).f2) ((rd_T27 l0_8 x5_3).f3.f0) ((rd_T27 l0_8 x5_3).f3.f1) ((rd_T27 l0_8 x5_3).f3.f2) ((rd_T27 l0_8 x5_3).f4) ((rd_T27 l0_8 x5_3).f5) _ _ ((rd_T27 l0_8 x5_3).f6) true _ ?side1 ?side2 A140.out).mono ?_
             (case side1 => repeat (first | exact (Kd.C_below HR274_8.out HB.out) | (with_reducible refine Kd.C_alloc ?_ _) | (with_reducible refine Kd.C_drewN ?_ _) | (with_reducible refine Kd.C_drew ?_)))
             (case side2 => exact HC274_8.out)
             rintro e w148 ⟨rfl, hb⟩
             refine ⟨_, rfl, ?_⟩
             have n0_ := Aside0.mk (blk_below (g := gb265) (o := .cells #[.int .i64 a0_0, .string a0_1, .int .i64 a0_2, .bool a0_3, .int .i64 a0_4, .string a0_5, .int .i64 a0_6, .string a0_7, .slice (some ad274) l0_8.length c0_8] 27 (0, 0)) (by (with_reducible repeat (first | refine blk_drewN ?_ _ | refine blk_drew ?_ | refine blk_alloc ?_ _)); exact BK265.out) hb)
             have n1_ := Aside0.mk (blk_below (g := gb266) (o := .cells #[.int .i64 a0_0, .string a0_1, .int .i64 a0_2, .bool a0_3, .int .i64 a0_4, .string a0_5, .int .i64 a0_6, .string a0_7, .slice none 0 0] 27 (0, 0)) (by (with_reducible repeat (first | refine blk_drewN ?_ _ | refine blk_drew ?_ | refine blk_alloc ?_ _)); exact BK266.out) hb)
             have n2_ := Aside0.mk (blk_below (g := gb267) (o := .cells #[.int .i64 x268000_1, .string x268001_1, .int .i64 x268002_1, .bool x268003_1, .int .i64 x268004_1, .string x268005_1, .int .i64 x268006_1, .string x268007_1, .slice none 0 0] 27 (0, 0)) (by (with_reducible repeat (first | refine blk_drewN ?_ _ | refine blk_drew ?_ | refine blk_alloc ?_ _)); exact BK267.out) hb)
             have n3_ := Aside0.mk (below_step (by repeat (first | (with_reducible first | exact HB.out | apply below_alloc | apply pw_below_drewN | apply below_drew1 | refine below_set ?_ GE265.out | refine below_set ?_ GE266.out | refine below_set ?_ GE267.out) | exact HB.out)) hb)
             clear BK265
             clear BK266
             clear BK267
             clear HB
             have BK265 := n0_
             have BK266 := n1_
             have BK267 := n2_
             have HB := n3_
             clear n0_ n1_ n2_ n3_
             (try clear hb)
             (try clear hb2)
             (try clear hk)
             (try clear hi)
             refine hK.out _ _ ⟨(blk_cell BK265.out 0).trans rfl, (blk_cell BK265.out 1).trans rfl, (blk_cell BK265.out 2).trans rfl, (blk_cell BK265.out 3).trans rfl, (blk_cell BK265.out 4).trans rfl, (blk_cell BK265.out 5).trans rfl, (blk_cell BK265.out 6).trans rfl, (blk_cell BK265.out 7).trans rfl, (blk_cell BK265.out 8).trans rfl, ((HB.out.cell (World.block_lt_of_cell? w _ hw274_0)).trans hw274_0), ((HB.out.cell (World.block_lt_of_cell? w _ hw274_1)).trans hw274_1), ((HB.out.cell (World.block_lt_of_cell? w _ hw274_2)).trans hw274_2), ((HB.out.cell (World.block_lt_of_cell? w _ hw274_3)).trans hw274_3), ((HB.out.cell (World.block_lt_of_cell? w _ hw274_4)).trans hw274_4), ((HB.out.cell (World.block_lt_of_cell? w _ hw274_5)).trans hw274_5), ((HB.out.cell (World.block_lt_of_cell? w _ hw274_6)).trans hw274_6), ((HB.out.cell (World.block_lt_of_cell? w _ hw274_7)).trans hw274_7), ((HB.out.cell (World.block_lt_of_cell? w _ hw274_8)).trans hw274_8), ((HB.out.cell (World.block_lt_of_cell? w _ hw276_0)).trans hw276_0), ((HB.out.cell (World.block_lt_of_cell? w _ hw276_1)).trans hw276_1), ((HB.out.cell (World.block_lt_of_cell? w _ hw276_2)).trans hw276_2), ((HB.out.cell (World.block_lt_of_cell? w _ hw276_3)).trans hw276_3), ((HB.out.cell (World.block_lt_of_cell? w _ hw276_4)).trans hw276_4), ((HB.out.cell (World.block_lt_of_cell? w _ hw276_5)).trans hw276_5), ((HB.out.cell (World.block_lt_of_cell? w _ hw276_6)).trans hw276_6), ((HB.out.cell (World.block_lt_of_cell? w _ hw276_7)).trans hw276_7), ((HB.out.cell (World.block_lt_of_cell? w _ hw276_8)).trans hw276_8)⟩ (fun hHeld => ?_)
             clear hK K
             refine norm_ (a' := ?_) ?_ ?_
             rotate_left
             ·show Act.put _ (some 120) _ = _
              simp only [Act.put, List.setIfInBounds_toArray, List.set_cons_zero, List.set_cons_succ, i64_w, i32_w]
              rfl
             refine pu_ 6 (some 121) (bl_ 23 127) ?_
             refine pu_ 7 (some 122) (bl_ 23 255) ?_
             refine pu_ 8 (some 123) (bl_ 23 511) ?_
             refine ta_ 9 (some 124) (bl_ 23 1023) hHeld ?_
             refine pu_ 10 (some 125) (bl_ 23 2047) ?_
             refine pu_ 11 (some 126) (bl_ 23 4095) ?_
             refine pu_ 12 (some 127) (bl_ 23 8191) ?_
             refine pu_ 14 (some 129) (bl_ 23 24575) ?_
             refine pu_ 18 (some 133) (bl_ 23 286719) ?_
             refine ta_ 13 (some 128) (bl_ 23 294911) hHeld ?_
             refine pu_ 15 (some 130) (bl_ 23 327679) ?_
             refine pu_ 16 (some 131) (bl_ 23 393215) ?_
             refine ta_ 17 (some 132) (bl_ 23 524287) hHeld ?_
             refine ta_ 19 (some 134) (bl_ 23 1048575) hHeld ?_
             refine pu_ 20 (some 135) (bl_ 23 2097151) ?_
             refine pu_ 21 (some 136) (bl_ 23 4194303) ?_
             refine pu_ 22 (some 137) (bl_ 23 8388607) ?_
             refine done_ (done_of HT_.out (by kernel_rfl)) ?_
             try go_wp2
             go_ret
             exact en_ HB
            ·rw [if_neg c143] at H
             have c143b0 : (((rd_T27 l0_8 x5_3).f0) == a0_0) = false := beq_eq_false_iff_ne.mpr c143
             have c143b1 : (((rd_T27 l0_8 x5_3).f0) != a0_0) = true := bne_iff_ne.mpr c143
             have H' := Aside0.mk H
             clear H
             have hnb149 := NB265_266.out
             have hnc149 := NB266_265.out
             have hnb150 := NB265_267.out
             have hnc150 := NB267_265.out
             obtain ⟨C151_0, C151_1, C151_2, C151_3, C151_4, C151_5, C151_6, C151_7, C151_8⟩ := cz9_ BK265.out
             obtain ⟨F151_0, F151_1, F151_2, F151_3, F151_4, F151_5, F151_6, F151_7, F151_8⟩ := fz9_ BK265.out
             try go_wp2
             have n0_ := Aside0.mk (blk_drew BK265.out)
             have n1_ := Aside0.mk (blk_drew BK266.out)
             have n2_ := Aside0.mk (blk_drew BK267.out)
             have n3_ := Aside0.mk (below_drew1 HB.out)
             clear BK265
             clear BK266
             clear BK267
             clear HB
             have BK265 := n0_
             have BK266 := n1_
             have BK267 := n2_
             have HB := n3_
             clear n0_ n1_ n2_ n3_
             have p274 : 0 ≤ (x5_3 : Int) := dt_
             have q274 : x5_3 < (l0_8.length : Int) := dt_
             obtain ⟨ad274, A274_8, c274_8, e274, hx274_0, hx274_1, hx274_2, hx274_3, hx274_4, hx274_5, hx274_6, hx274_7, hx274_8, hl274_8, hi274_8⟩ := at_T27 HR0_8.out x5_3 p274 q274
             have hw274_8 := hx274_8
             have hw274_7 := hx274_7
             have hw274_6 := hx274_6
             have hw274_5 := hx274_5
             have hw274_4 := hx274_4
             have hw274_3 := hx274_3
             have hw274_2 := hx274_2
             have hw274_1 := hx274_1
             have hw274_0 := hx274_0
             cases e274
             replace hx274_0 := hc_ HB hx274_0
             replace hx274_1 := hc_ HB hx274_1
             replace hx274_2 := hc_ HB hx274_2
             replace hx274_3 := hc_ HB hx274_3
             replace hx274_4 := hc_ HB hx274_4
             replace hx274_5 := hc_ HB hx274_5
             replace hx274_6 := hc_ HB hx274_6
             replace hx274_7 := hc_ HB hx274_7
             replace hx274_8 := hc_ HB hx274_8
             have HR274_8 := Aside0.mk hi274_8
             have HC274_8 := Aside0.mk hl274_8
             clear hi274_8 hl274_8
             replace p274 := eq_true p274
             replace q274 := eq_true q274
             have p276 : 0 ≤ (x5_3 : Int) := dt_
             have q276 : x5_3 < (l0_8.length : Int) := dt_
             obtain ⟨ad276, A276_8, c276_8, e276, hx276_0, hx276_1, hx276_2, hx276_3, hx276_4, hx276_5, hx276_6, hx276_7, hx276_8, hl276_8, hi276_8⟩ := at_T27 HR0_8.out x5_3 p276 q276
             have hw276_8 := hx276_8
             have hw276_7 := hx276_7
             have hw276_6 := hx276_6
             have hw276_5 := hx276_5
             have hw276_4 := hx276_4
             have hw276_3 := hx276_3
             have hw276_2 := hx276_2
             have hw276_1 := hx276_1
             have hw276_0 := hx276_0
             obtain rfl : ad274 = ad276 := (by injection e276)
             replace hx276_0 := hc_ HB hx276_0
             replace hx276_1 := hc_ HB hx276_1
             replace hx276_2 := hc_ HB hx276_2
             replace hx276_3 := hc_ HB hx276_3
             replace hx276_4 := hc_ HB hx276_4
             replace hx276_5 := hc_ HB hx276_5
             replace hx276_6 := hc_ HB hx276_6
             replace hx276_7 := hc_ HB hx276_7
             replace hx276_8 := hc_ HB hx276_8
             have HR276_8 := Aside0.mk hi276_8
             have HC276_8 := Aside0.mk hl276_8
             clear hi276_8 hl276_8
             replace p276 := eq_true p276
             replace q276 := eq_true q276
             refine start_ (n := 23) (S := fun w' => w'.cell? ⟨gb265, 0, none⟩ = some (.int .i64 a0_0) ∧ w'.cell? ⟨gb265, 1, none⟩ = some (.string a0_1) ∧ w'.cell? ⟨gb265, 2, none⟩ = some (.int .i64 a0_2) ∧ w'.cell? ⟨gb265, 3, none⟩ = some (.bool a0_3) ∧ w'.cell? ⟨gb265, 4, none⟩ = some (.int .i64 a0_4) ∧ w'.cell? ⟨gb265, 5, none⟩ = some (.string a0_5) ∧ w'.cell? ⟨gb265, 6, none⟩ = some (.int .i64 a0_6) ∧ w'.cell? ⟨gb265, 7, none⟩ = some (.string a0_7) ∧ w'.cell? ⟨gb265, 8, none⟩ = some (.slice (some ad274) l0_8.length c0_8) ∧ w'.cell? (ad274.add ((x5_3).toNat * 9)) = some (.int .i64 ((rd_T27 l0_8 x5_3).f0)) ∧ w'.cell? ⟨(ad274.add ((x5_3).toNat * 9)).block, (ad274.add ((x5_3).toNat * 9)).off + 1, none⟩ = some (.string ((rd_T27 l0_8 x5_3).f1)) ∧ w'.cell? ⟨(ad274.add ((x5_3).toNat * 9)).block, (ad274.add ((x5_3).toNat * 9)).off + 2, none⟩ = some (.int .i64 ((rd_T27 l0_8 x5_3).f2)) ∧ w'.cell? ⟨(ad274.add ((x5_3).toNat * 9)).block, (ad274.add ((x5_3).toNat * 9)).off + 3, none⟩ = some (.bool ((rd_T27 l0_8 x5_3).f3.f0)) ∧ w'.cell? ⟨(ad274.add ((x5_3).toNat * 9)).block, (ad274.add ((x5_3).toNat * 9)).off + 4, none⟩ = some (.int .i64 ((rd_T27 l0_8 x5_3).f3.f1)) ∧ w'.cell? ⟨(ad274.add ((x5_3).toNat * 9)).block, (ad274.add ((x5_3).toNat * 9)).off + 5, none⟩ = some (.string ((rd_T27 l0_8 x5_3).f3.f2)) ∧ w'.cell? ⟨(ad274.add ((x5_3).toNat * 9)).block, (ad274.add ((x5_3).toNat * 9)).off + 6, none⟩ = some (.int .i64 ((rd_T27 l0_8 x5_3).f4)) ∧ w'.cell? ⟨(ad274.add ((x5_3).toNat * 9)).block, (ad274.add ((x5_3).toNat * 9)).off + 7, none⟩ = some (.string ((rd_T27 l0_8 x5_3).f5)) ∧ w'.cell? ⟨(ad274.add ((x5_3).toNat * 9)).block, (ad274.add ((x5_3).toNat * 9)).off + 8, none⟩ = some (.slice A274_8 ((rd_T27 l0_8 x5_3).f6).length c274_8) ∧ w'.cell? (ad274.add ((x5_3).toNat * 9)) = some (.int .i64 ((rd_T27 l0_8 x5_3).f0)) ∧ w'.cell? ⟨(ad274.add ((x5_3).toNat * 9)).block, (ad274.add ((x5_3).toNat * 9)).off + 1, none⟩ = some (.string ((rd_T27 l0_8 x5_3).f1)) ∧ w'.cell? ⟨(ad274.add ((x5_3).toNat * 9)).block, (ad274.add ((x5_3).toNat * 9)).off + 2, none⟩ = some (.int .i64 ((rd_T27 l0_8 x5_3).f2)) ∧ w'.cell? ⟨(ad274.add ((x5_3).toNat * 9)).block, (ad274.add ((x5_3).toNat * 9)).off + 3, none⟩ = some (.bool ((rd_T27 l0_8 x5_3).f3.f0)) ∧ w'.cell? ⟨(ad274.add ((x5_3).toNat * 9)).block, (ad274.add ((x5_3).toNat * 9)).off + 4, none⟩ = some (.int .i64 ((rd_T27 l0_8 x5_3).f3.f1)) ∧ w'.cell? ⟨(ad274.add ((x5_3).toNat * 9)).block, (ad274.add ((x5_3).toNat * 9)).off + 5, none⟩ = some (.string ((rd_T27 l0_8 x5_3).f3.f2)) ∧ w'.cell? ⟨(ad274.add ((x5_3).toNat * 9)).block, (ad274.add ((x5_3).toNat * 9)).off + 6, none⟩ = some (.int .i64 ((rd_T27 l0_8 x5_3).f4)) ∧ w'.cell? ⟨(ad274.add ((x5_3).toNat * 9)).block, (ad274.add ((x5_3).toNat * 9)).off + 7, none⟩ = some (.string ((rd_T27 l0_8 x5_3).f5)) ∧ w'.cell? ⟨(ad274.add ((x5_3).toNat * 9)).block, (ad274.add ((x5_3).toNat * 9)).off + 8, none⟩ = some (.slice A276_8 ((rd_T27 l0_8 x5_3).f6).length c276_8)) (ds := []) #[false, false, false, false, false, false, false, false, false, false, false, false, false, false, false, false, false, false, false, false, false, false, false] (by kernel_rfl) rfl rfl ⟨(blk_cell BK265.out 0).trans rfl, (blk_cell BK265.out 1).trans rfl, (blk_cell BK265.out 2).trans rfl, (blk_cell BK265.out 3).trans rfl, (blk_cell BK265.out 4).trans rfl, (blk_cell BK265.out 5).trans rfl, (blk_cell BK265.out 6).trans rfl, (blk_cell BK265.out 7).trans rfl, (blk_cell BK265.out 8).trans rfl, ((HB.out.cell (World.block_lt_of_cell? w _ hw274_0)).trans hw274_0), ((HB.out.cell (World.block_lt_of_cell? w _ hw274_1)).trans hw274_1), ((HB.out.cell (World.block_lt_of_cell? w _ hw274_2)).trans hw274_2), ((HB.out.cell (World.block_lt_of_cell? w _ hw274_3)).trans hw274_3), ((HB.out.cell (World.block_lt_of_cell? w _ hw274_4)).trans hw274_4), ((HB.out.cell (World.block_lt_of_cell? w _ hw274_5)).trans hw274_5), ((HB.out.cell (World.block_lt_of_cell? w _ hw274_6)).trans hw274_6), ((HB.out.cell (World.block_lt_of_cell? w _ hw274_7)).trans hw274_7), ((HB.out.cell (World.block_lt_of_cell? w _ hw274_8)).trans hw274_8), ((HB.out.cell (World.block_lt_of_cell? w _ hw276_0)).trans hw276_0), ((HB.out.cell (World.block_lt_of_cell? w _ hw276_1)).trans hw276_1), ((HB.out.cell (World.block_lt_of_cell? w _ hw276_2)).trans hw276_2), ((HB.out.cell (World.block_lt_of_cell? w _ hw276_3)).trans hw276_3), ((HB.out.cell (World.block_lt_of_cell? w _ hw276_4)).trans hw276_4), ((HB.out.cell (World.block_lt_of_cell? w _ hw276_5)).trans hw276_5), ((HB.out.cell (World.block_lt_of_cell? w _ hw276_6)).trans hw276_6), ((HB.out.cell (World.block_lt_of_cell? w _ hw276_7)).trans hw276_7), ((HB.out.cell (World.block_lt_of_cell? w _ hw276_8)).trans hw276_8)⟩ (fun hHeld => ?_); refine with_tabW firkinref17_one.tab31 firkinref17_one.bits31 (fun HT_ HW_ => ?_)
             generalize wr.drew = w152 at BK265 BK266 BK267 HB HR274_8 HR276_8 hx274_0 hx274_1 hx274_2 hx274_3 hx274_4 hx274_5 hx274_6 hx274_7 hx274_8 hx276_0 hx276_1 hx276_2 hx276_3 hx276_4 hx276_5 hx276_6 hx276_7 hx276_8 hHeld ⊢
             refine pu_ 0 (some 115) (bl_ 23 1) ?_
             refine pu_ 2 (some 117) (bl_ 23 5) ?_
             refine ta_ 1 (some 116) (bl_ 23 7) hHeld ?_
             refine pu_ 3 (some 118) (bl_ 23 15) ?_
             refine ta_ 4 (some 119) (bl_ 23 31) hHeld ?_
             refine one_ (i := 5) (N := some 120) #[true, true, true, true, true, true, false, false, false, false, false, false, false, false, false, false, false, false, false, false, false, false, false] rfl rfl (one_of HT_.out (by kernel_rfl)) (by decide) (fun K hK => ?_)
             refine gs_ Try.func78 #[.agg #[.int .i64 ((rd_T27 l0_8 x5_3).f0), .string ((rd_T27 l0_8 x5_3).f1), .int .i64 ((rd_T27 l0_8 x5_3).f2), .bool ((rd_T27 l0_8 x5_3).f3.f0), .int .i64 ((rd_T27 l0_8 x5_3).f3.f1), .string ((rd_T27 l0_8 x5_3).f3.f2), .int .i64 ((rd_T27 l0_8 x5_3).f4), .string ((rd_T27 l0_8 x5_3).f5), .slice A274_8 ((rd_T27 l0_8 x5_3).f6).length c274_8]] ?_
             with_reducible refine (ih k3 (by have := HJ1.out; have := HJ114.out; have := HK3.out; omega) ((rd_T27 l0_8 x5_3).f0) ((rd_T27 l0_8 x5_3).f1) ((rd_T27 l0_8 x5_3).f2) ((rd_T27 l0_8 x5_3).f3.f0) ((rd_T27 l0_8 x5_3).f3.f1) ((rd_T27 l0_8 x5_3).f3.f2) ((rd_T27 l0_8 x5_3).f4) ((rd_T27 l0_8 x5_3).f5) _ _ ((rd_T27 l0_8 x5_3).f6) true _ ?side1 ?side2 A140.out).mono ?_
             (case side1 => repeat (first | exact (Kd.C_below HR274_8.out HB.out) | (with_reducible refine Kd.C_alloc ?_ _) | (with_reducible refine Kd.C_drewN ?_ _) | (with_reducible refine Kd.C_drew ?_)))
             (case side2 => exact HC274_8.out)
             rintro e w153 ⟨rfl, hb⟩
             refine ⟨_, rfl, ?_⟩
             have n0_ := Aside0.mk (blk_below (g := gb265) (o := .cells #[.int .i64 a0_0, .string a0_1, .int .i64 a0_2, .bool a0_3, .int .i64 a0_4, .string a0_5, .int .i64 a0_6, .string a0_7, .slice (some ad274) l0_8.length c0_8] 27 (0, 0)) (by (with_reducible repeat (first | refine blk_drewN ?_ _ | refine blk_drew ?_ | refine blk_alloc ?_ _)); exact BK265.out) hb)
             have n1_ := Aside0.mk (blk_below (g := gb266) (o := .cells #[.int .i64 a0_0, .string a0_1, .int .i64 a0_2, .bool a0_3, .int .i64 a0_4, .string a0_5, .int .i64 a0_6, .string a0_7, .slice none 0 0] 27 (0, 0)) (by (with_reducible repeat (first | refine blk_drewN ?_ _ | refine blk_drew ?_ | refine blk_alloc ?_ _)); exact BK266.out) hb)
             have n2_ := Aside0.mk (blk_below (g := gb267) (o := .cells #[.int .i64 x268000_1, .string x268001_1, .int .i64 x268002_1, .bool x268003_1, .int .i64 x268004_1, .string x268005_1, .int .i64 x268006_1, .string x268007_1, .slice none 0 0] 27 (0, 0)) (by (with_reducible repeat (first | refine blk_drewN ?_ _ | refine blk_drew ?_ | refine blk_alloc ?_ _)); exact BK267.out) hb)
             have n3_ := Aside0.mk (below_step (by repeat (first | (with_reducible first | exact HB.out | apply below_alloc | apply pw_below_drewN | apply below_drew1 | refine below_set ?_ GE265.out | refine below_set ?_ GE266.out | refine below_set ?_ GE267.out) | exact HB.out)) hb)
             clear BK265
             clear BK266
             clear BK267
             clear HB
             have BK265 := n0_
             have BK266 := n1_
             have BK267 := n2_
             have HB := n3_
             clear n0_ n1_ n2_ n3_
             (try clear hb)
             (try clear hb2)
             (try clear hk)
             (try clear hi)
             refine hK.out _ _ ⟨(blk_cell BK265.out 0).trans rfl, (blk_cell BK265.out 1).trans rfl, (blk_cell BK265.out 2).trans rfl, (blk_cell BK265.out 3).trans rfl, (blk_cell BK265.out 4).trans rfl, (blk_cell BK265.out 5).trans rfl, (blk_cell BK265.out 6).trans rfl, (blk_cell BK265.out 7).trans rfl, (blk_cell BK265.out 8).trans rfl, ((HB.out.cell (World.block_lt_of_cell? w _ hw274_0)).trans hw274_0), ((HB.out.cell (World.block_lt_of_cell? w _ hw274_1)).trans hw274_1), ((HB.out.cell (World.block_lt_of_cell? w _ hw274_2)).trans hw274_2), ((HB.out.cell (World.block_lt_of_cell? w _ hw274_3)).trans hw274_3), ((HB.out.cell (World.block_lt_of_cell? w _ hw274_4)).trans hw274_4), ((HB.out.cell (World.block_lt_of_cell? w _ hw274_5)).trans hw274_5), ((HB.out.cell (World.block_lt_of_cell? w _ hw274_6)).trans hw274_6), ((HB.out.cell (World.block_lt_of_cell? w _ hw274_7)).trans hw274_7), ((HB.out.cell (World.block_lt_of_cell? w _ hw274_8)).trans hw274_8), ((HB.out.cell (World.block_lt_of_cell? w _ hw276_0)).trans hw276_0), ((HB.out.cell (World.block_lt_of_cell? w _ hw276_1)).trans hw276_1), ((HB.out.cell (World.block_lt_of_cell? w _ hw276_2)).trans hw276_2), ((HB.out.cell (World.block_lt_of_cell? w _ hw276_3)).trans hw276_3), ((HB.out.cell (World.block_lt_of_cell? w _ hw276_4)).trans hw276_4), ((HB.out.cell (World.block_lt_of_cell? w _ hw276_5)).trans hw276_5), ((HB.out.cell (World.block_lt_of_cell? w _ hw276_6)).trans hw276_6), ((HB.out.cell (World.block_lt_of_cell? w _ hw276_7)).trans hw276_7), ((HB.out.cell (World.block_lt_of_cell? w _ hw276_8)).trans hw276_8)⟩ (fun hHeld => ?_)
             clear hK K
             refine norm_ (a' := ?_) ?_ ?_
             rotate_left
             ·show Act.put _ (some 120) _ = _
              simp only [Act.put, List.setIfInBounds_toArray, List.set_cons_zero, List.set_cons_succ, i64_w, i32_w]
              rfl
             refine pu_ 6 (some 121) (bl_ 23 127) ?_
             refine pu_ 7 (some 122) (bl_ 23 255) ?_
             refine pu_ 8 (some 123) (bl_ 23 511) ?_
             refine ta_ 9 (some 124) (bl_ 23 1023) hHeld ?_
             refine pu_ 10 (some 125) (bl_ 23 2047) ?_
             refine pu_ 11 (some 126) (bl_ 23 4095) ?_
             refine pu_ 12 (some 127) (bl_ 23 8191) ?_
             refine pu_ 14 (some 129) (bl_ 23 24575) ?_
             refine pu_ 18 (some 133) (bl_ 23 286719) ?_
             refine ta_ 13 (some 128) (bl_ 23 294911) hHeld ?_
             refine pu_ 15 (some 130) (bl_ 23 327679) ?_
             refine pu_ 16 (some 131) (bl_ 23 393215) ?_
             refine ta_ 17 (some 132) (bl_ 23 524287) hHeld ?_
             refine ta_ 19 (some 134) (bl_ 23 1048575) hHeld ?_
             refine pu_ 20 (some 135) (bl_ 23 2097151) ?_
             refine pu_ 21 (some 136) (bl_ 23 4194303) ?_
             refine pu_ 22 (some 137) (bl_ 23 8388607) ?_
             refine done_ (done_of HT_.out (by kernel_rfl)) ?_
             try go_wp2
             go_roundg k3
             case measure => have := HJ1.out; have := HJ114.out; have := HK3.out; omega
             case rel => exact ⟨(wrap64 (x5_3 + 1)), (by first | rfl | (simp; done) | (simp [*]; done)), H', ⟨by have := HJ1.out; have := HJ114.out; have := HK3.out; omega⟩, ⟨by (with_reducible repeat (first | refine blk_drewN ?_ _ | refine blk_drew ?_ | refine blk_alloc ?_ _)); exact BK265.out⟩, ⟨by (with_reducible repeat (first | refine blk_drewN ?_ _ | refine blk_drew ?_ | refine blk_alloc ?_ _)); exact BK266.out⟩, ⟨by (with_reducible repeat (first | refine blk_drewN ?_ _ | refine blk_drew ?_ | refine blk_alloc ?_ _)); exact BK267.out⟩, ⟨by repeat (first | (with_reducible first | exact HB.out | apply below_alloc | apply pw_below_drewN | apply below_drew1 | refine below_set ?_ GE265.out | refine below_set ?_ GE266.out | refine below_set ?_ GE267.out) | exact HB.out)⟩⟩
           ·rw [if_neg c142] at H
            have c142b0 : decide (6 ≤ a0_0) = false := decide_eq_false c142
            clear c142
            have H' := Aside0.mk H
            clear H
            have hnb154 := NB265_266.out
            have hnc154 := NB266_265.out
            have hnb155 := NB265_267.out
            have hnc155 := NB267_265.out
            obtain ⟨C156_0, C156_1, C156_2, C156_3, C156_4, C156_5, C156_6, C156_7, C156_8⟩ := cz9_ BK265.out
            obtain ⟨F156_0, F156_1, F156_2, F156_3, F156_4, F156_5, F156_6, F156_7, F156_8⟩ := fz9_ BK265.out
            try go_wp2
            have n0_ := Aside0.mk (blk_drew BK265.out)
            have n1_ := Aside0.mk (blk_drew BK266.out)
            have n2_ := Aside0.mk (blk_drew BK267.out)
            have n3_ := Aside0.mk (below_drew1 HB.out)
            clear BK265
            clear BK266
            clear BK267
            clear HB
            have BK265 := n0_
            have BK266 := n1_
            have BK267 := n2_
            have HB := n3_
            clear n0_ n1_ n2_ n3_
            have p274 : 0 ≤ (x5_3 : Int) := dt_
            have q274 : x5_3 < (l0_8.length : Int) := dt_
            obtain ⟨ad274, A274_8, c274_8, e274, hx274_0, hx274_1, hx274_2, hx274_3, hx274_4, hx274_5, hx274_6, hx274_7, hx274_8, hl274_8, hi274_8⟩ := at_T27 HR0_8.out x5_3 p274 q274
            have hw274_8 := hx274_8
            have hw274_7 := hx274_7
            have hw274_6 := hx274_6
            have hw274_5 := hx274_5
            have hw274_4 := hx274_4
            have hw274_3 := hx274_3
            have hw274_2 := hx274_2
            have hw274_1 := hx274_1
            have hw274_0 := hx274_0
            cases e274
            replace hx274_0 := hc_ HB hx274_0
            replace hx274_1 := hc_ HB hx274_1
            replace hx274_2 := hc_ HB hx274_2
            replace hx274_3 := hc_ HB hx274_3
            replace hx274_4 := hc_ HB hx274_4
            replace hx274_5 := hc_ HB hx274_5
            replace hx274_6 := hc_ HB hx274_6
            replace hx274_7 := hc_ HB hx274_7
            replace hx274_8 := hc_ HB hx274_8
            have HR274_8 := Aside0.mk hi274_8
            have HC274_8 := Aside0.mk hl274_8
            clear hi274_8 hl274_8
            replace p274 := eq_true p274
            replace q274 := eq_true q274
            refine start_ (n := 23) (S := fun w' => w'.cell? ⟨gb265, 0, none⟩ = some (.int .i64 a0_0) ∧ w'.cell? ⟨gb265, 1, none⟩ = some (.string a0_1) ∧ w'.cell? ⟨gb265, 2, none⟩ = some (.int .i64 a0_2) ∧ w'.cell? ⟨gb265, 3, none⟩ = some (.bool a0_3) ∧ w'.cell? ⟨gb265, 4, none⟩ = some (.int .i64 a0_4) ∧ w'.cell? ⟨gb265, 5, none⟩ = some (.string a0_5) ∧ w'.cell? ⟨gb265, 6, none⟩ = some (.int .i64 a0_6) ∧ w'.cell? ⟨gb265, 7, none⟩ = some (.string a0_7) ∧ w'.cell? ⟨gb265, 8, none⟩ = some (.slice (some ad274) l0_8.length c0_8) ∧ w'.cell? (ad274.add ((x5_3).toNat * 9)) = some (.int .i64 ((rd_T27 l0_8 x5_3).f0)) ∧ w'.cell? ⟨(ad274.add ((x5_3).toNat * 9)).block, (ad274.add ((x5_3).toNat * 9)).off + 1, none⟩ = some (.string ((rd_T27 l0_8 x5_3).f1)) ∧ w'.cell? ⟨(ad274.add ((x5_3).toNat * 9)).block, (ad274.add ((x5_3).toNat * 9)).off + 2, none⟩ = some (.int .i64 ((rd_T27 l0_8 x5_3).f2)) ∧ w'.cell? ⟨(ad274.add ((x5_3).toNat * 9)).block, (ad274.add ((x5_3).toNat * 9)).off + 3, none⟩ = some (.bool ((rd_T27 l0_8 x5_3).f3.f0)) ∧ w'.cell? ⟨(ad274.add ((x5_3).toNat * 9)).block, (ad274.add ((x5_3).toNat * 9)).off + 4, none⟩ = some (.int .i64 ((rd_T27 l0_8 x5_3).f3.f1)) ∧ w'.cell? ⟨(ad274.add ((x5_3).toNat * 9)).block, (ad274.add ((x5_3).toNat * 9)).off + 5, none⟩ = some (.string ((rd_T27 l0_8 x5_3).f3.f2)) ∧ w'.cell? ⟨(ad274.add ((x5_3).toNat * 9)).block, (ad274.add ((x5_3).toNat * 9)).off + 6, none⟩ = some (.int .i64 ((rd_T27 l0_8 x5_3).f4)) ∧ w'.cell? ⟨(ad274.add ((x5_3).toNat * 9)).block, (ad274.add ((x5_3).toNat * 9)).off + 7, none⟩ = some (.string ((rd_T27 l0_8 x5_3).f5)) ∧ w'.cell? ⟨(ad274.add ((x5_3).toNat * 9)).block, (ad274.add ((x5_3).toNat * 9)).off + 8, none⟩ = some (.slice A274_8 ((rd_T27 l0_8 x5_3).f6).length c274_8)) (ds := []) #[false, false, false, false, false, false, false, false, false, false, false, false, false, false, false, false, false, false, false, false, false, false, false] (by kernel_rfl) rfl rfl ⟨(blk_cell BK265.out 0).trans rfl, (blk_cell BK265.out 1).trans rfl, (blk_cell BK265.out 2).trans rfl, (blk_cell BK265.out 3).trans rfl, (blk_cell BK265.out 4).trans rfl, (blk_cell BK265.out 5).trans rfl, (blk_cell BK265.out 6).trans rfl, (blk_cell BK265.out 7).trans rfl, (blk_cell BK265.out 8).trans rfl, ((HB.out.cell (World.block_lt_of_cell? w _ hw274_0)).trans hw274_0), ((HB.out.cell (World.block_lt_of_cell? w _ hw274_1)).trans hw274_1), ((HB.out.cell (World.block_lt_of_cell? w _ hw274_2)).trans hw274_2), ((HB.out.cell (World.block_lt_of_cell? w _ hw274_3)).trans hw274_3), ((HB.out.cell (World.block_lt_of_cell? w _ hw274_4)).trans hw274_4), ((HB.out.cell (World.block_lt_of_cell? w _ hw274_5)).trans hw274_5), ((HB.out.cell (World.block_lt_of_cell? w _ hw274_6)).trans hw274_6), ((HB.out.cell (World.block_lt_of_cell? w _ hw274_7)).trans hw274_7), ((HB.out.cell (World.block_lt_of_cell? w _ hw274_8)).trans hw274_8)⟩ (fun hHeld => ?_); refine with_tabW firkinref17_one.tab31 firkinref17_one.bits31 (fun HT_ HW_ => ?_)
            generalize wr.drew = w157 at BK265 BK266 BK267 HB HR274_8 hx274_0 hx274_1 hx274_2 hx274_3 hx274_4 hx274_5 hx274_6 hx274_7 hx274_8 hHeld ⊢
            refine pu_ 0 (some 115) (bl_ 23 1) ?_
            refine pu_ 2 (some 117) (bl_ 23 5) ?_
            refine ta_ 1 (some 116) (bl_ 23 7) hHeld ?_
            refine pu_ 3 (some 118) (bl_ 23 15) ?_
            refine ta_ 4 (some 119) (bl_ 23 31) hHeld ?_
            refine one_ (i := 5) (N := some 120) #[true, true, true, true, true, true, false, false, false, false, false, false, false, false, false, false, false, false, false, false, false, false, false] rfl rfl (one_of HT_.out (by kernel_rfl)) (by decide) (fun K hK => ?_)
            refine gs_ Try.func78 #[.agg #[.int .i64 ((rd_T27 l0_8 x5_3).f0), .string ((rd_T27 l0_8 x5_3).f1), .int .i64 ((rd_T27 l0_8 x5_3).f2), .bool ((rd_T27 l0_8 x5_3).f3.f0), .int .i64 ((rd_T27 l0_8 x5_3).f3.f1), .string ((rd_T27 l0_8 x5_3).f3.f2), .int .i64 ((rd_T27 l0_8 x5_3).f4), .string ((rd_T27 l0_8 x5_3).f5), .slice A274_8 ((rd_T27 l0_8 x5_3).f6).length c274_8]] ?_
            with_reducible refine (ih k3 (by have := HJ1.out; have := HJ114.out; have := HK3.out; omega) ((rd_T27 l0_8 x5_3).f0) ((rd_T27 l0_8 x5_3).f1) ((rd_T27 l0_8 x5_3).f2) ((rd_T27 l0_8 x5_3).f3.f0) ((rd_T27 l0_8 x5_3).f3.f1) ((rd_T27 l0_8 x5_3).f3.f2) ((rd_T27 l0_8 x5_3).f4) ((rd_T27 l0_8 x5_3).f5) _ _ ((rd_T27 l0_8 x5_3).f6) true _ ?side1 ?side2 A140.out).mono ?_
            (case side1 => repeat (first | exact (Kd.C_below HR274_8.out HB.out) | (with_reducible refine Kd.C_alloc ?_ _) | (with_reducible refine Kd.C_drewN ?_ _) | (with_reducible refine Kd.C_drew ?_)))
            (case side2 => exact HC274_8.out)
            rintro e w158 ⟨rfl, hb⟩
            refine ⟨_, rfl, ?_⟩
            have n0_ := Aside0.mk (blk_below (g := gb265) (o := .cells #[.int .i64 a0_0, .string a0_1, .int .i64 a0_2, .bool a0_3, .int .i64 a0_4, .string a0_5, .int .i64 a0_6, .string a0_7, .slice (some ad274) l0_8.length c0_8] 27 (0, 0)) (by (with_reducible repeat (first | refine blk_drewN ?_ _ | refine blk_drew ?_ | refine blk_alloc ?_ _)); exact BK265.out) hb)
            have n1_ := Aside0.mk (blk_below (g := gb266) (o := .cells #[.int .i64 a0_0, .string a0_1, .int .i64 a0_2, .bool a0_3, .int .i64 a0_4, .string a0_5, .int .i64 a0_6, .string a0_7, .slice none 0 0] 27 (0, 0)) (by (with_reducible repeat (first | refine blk_drewN ?_ _ | refine blk_drew ?_ | refine blk_alloc ?_ _)); exact BK266.out) hb)
            have n2_ := Aside0.mk (blk_below (g := gb267) (o := .cells #[.int .i64 x268000_1, .string x268001_1, .int .i64 x268002_1, .bool x268003_1, .int .i64 x268004_1, .string x268005_1, .int .i64 x268006_1, .string x268007_1, .slice none 0 0] 27 (0, 0)) (by (with_reducible repeat (first | refine blk_drewN ?_ _ | refine blk_drew ?_ | refine blk_alloc ?_ _)); exact BK267.out) hb)
            have n3_ := Aside0.mk (below_step (by repeat (first | (with_reducible first | exact HB.out | apply below_alloc | apply pw_below_drewN | apply below_drew1 | refine below_set ?_ GE265.out | refine below_set ?_ GE266.out | refine below_set ?_ GE267.out) | exact HB.out)) hb)
            clear BK265
            clear BK266
            clear BK267
            clear HB
            have BK265 := n0_
            have BK266 := n1_
            have BK267 := n2_
            have HB := n3_
            clear n0_ n1_ n2_ n3_
            (try clear hb)
            (try clear hb2)
            (try clear hk)
            (try clear hi)
            refine hK.out _ _ ⟨(blk_cell BK265.out 0).trans rfl, (blk_cell BK265.out 1).trans rfl, (blk_cell BK265.out 2).trans rfl, (blk_cell BK265.out 3).trans rfl, (blk_cell BK265.out 4).trans rfl, (blk_cell BK265.out 5).trans rfl, (blk_cell BK265.out 6).trans rfl, (blk_cell BK265.out 7).trans rfl, (blk_cell BK265.out 8).trans rfl, ((HB.out.cell (World.block_lt_of_cell? w _ hw274_0)).trans hw274_0), ((HB.out.cell (World.block_lt_of_cell? w _ hw274_1)).trans hw274_1), ((HB.out.cell (World.block_lt_of_cell? w _ hw274_2)).trans hw274_2), ((HB.out.cell (World.block_lt_of_cell? w _ hw274_3)).trans hw274_3), ((HB.out.cell (World.block_lt_of_cell? w _ hw274_4)).trans hw274_4), ((HB.out.cell (World.block_lt_of_cell? w _ hw274_5)).trans hw274_5), ((HB.out.cell (World.block_lt_of_cell? w _ hw274_6)).trans hw274_6), ((HB.out.cell (World.block_lt_of_cell? w _ hw274_7)).trans hw274_7), ((HB.out.cell (World.block_lt_of_cell? w _ hw274_8)).trans hw274_8)⟩ (fun hHeld => ?_)
            clear hK K
            refine norm_ (a' := ?_) ?_ ?_
            rotate_left
            ·show Act.put _ (some 120) _ = _
             simp only [Act.put, List.setIfInBounds_toArray, List.set_cons_zero, List.set_cons_succ, i64_w, i32_w]
             rfl
            refine pu_ 6 (some 121) (bl_ 23 127) ?_
            refine pu_ 7 (some 122) (bl_ 23 255) ?_
            refine pu_ 8 (some 123) (bl_ 23 511) ?_
            refine ta_ 9 (some 124) (bl_ 23 1023) hHeld ?_
            refine pu_ 10 (some 125) (bl_ 23 2047) ?_
            refine pu_ 11 (some 126) (bl_ 23 4095) ?_
            refine pure_ (i := 12) (N := some 127) (v := undef) (a' := ?_) #[true, true, true, true, true, true, true, true, true, true, true, true, true, false, false, false, false, false, false, false, false, false, false] rfl rfl (any_of HT_.out (by kernel_rfl)) (fun _ _ _ h => h) (Or.inr ⟨by rfl, rfl⟩) ?_ ?_
            rotate_left
            ·simp only [Act.put, List.setIfInBounds_toArray, List.set_cons_zero, List.set_cons_succ, i64_w, i32_w]
             rfl
            refine pure_ (i := 13) (N := some 128) (v := undef) (a' := ?_) #[true, true, true, true, true, true, true, true, true, true, true, true, true, true, false, false, false, false, false, false, false, false, false] rfl rfl (any_of HT_.out (by kernel_rfl)) (fun _ _ _ h => h) (Or.inr ⟨by rfl, rfl⟩) ?_ ?_
            rotate_left
            ·simp only [Act.put, List.setIfInBounds_toArray, List.set_cons_zero, List.set_cons_succ, i64_w, i32_w]
             rfl
            refine pure_ (i := 14) (N := some 129) (v := undef) (a' := ?_) #[true, true, true, true, true, true, true, true, true, true, true, true, true, true, true, false, false, false, false, false, false, false, false] rfl rfl (any_of HT_.out (by kernel_rfl)) (fun _ _ _ h => h) (Or.inr ⟨by rfl, rfl⟩) ?_ ?_
            rotate_left
            ·simp only [Act.put, List.setIfInBounds_toArray, List.set_cons_zero, List.set_cons_succ, i64_w, i32_w]
             rfl
            refine pure_ (i := 15) (N := some 130) (v := undef) (a' := ?_) #[true, true, true, true, true, true, true, true, true, true, true, true, true, true, true, true, false, false, false, false, false, false, false] rfl rfl (any_of HT_.out (by kernel_rfl)) (fun _ _ _ h => h) (Or.inr ⟨by rfl, rfl⟩) ?_ ?_
            rotate_left
            ·simp only [Act.put, List.setIfInBounds_toArray, List.set_cons_zero, List.set_cons_succ, i64_w, i32_w]
             rfl
            refine pure_ (i := 16) (N := some 131) (v := undef) (a' := ?_) #[true, true, true, true, true, true, true, true, true, true, true, true, true, true, true, true, true, false, false, false, false, false, false] rfl rfl (any_of HT_.out (by kernel_rfl)) (fun _ _ _ h => h) (Or.inr ⟨by rfl, rfl⟩) ?_ ?_
            rotate_left
            ·simp only [Act.put, List.setIfInBounds_toArray, List.set_cons_zero, List.set_cons_succ, i64_w, i32_w]
             rfl
            refine pure_ (i := 17) (N := some 132) (v := undef) (a' := ?_) #[true, true, true, true, true, true, true, true, true, true, true, true, true, true, true, true, true, true, false, false, false, false, false] rfl rfl (any_of HT_.out (by kernel_rfl)) (fun _ _ _ h => h) (Or.inr ⟨by rfl, rfl⟩) ?_ ?_
            rotate_left
            ·simp only [Act.put, List.setIfInBounds_toArray, List.set_cons_zero, List.set_cons_succ, i64_w, i32_w]
             rfl
            refine pure_ (i := 18) (N := some 133) (v := undef) (a' := ?_) #[true, true, true, true, true, true, true, true, true, true, true, true, true, true, true, true, true, true, true, false, false, false, false] rfl rfl (any_of HT_.out (by kernel_rfl)) (fun _ _ _ h => h) (Or.inr ⟨by rfl, rfl⟩) ?_ ?_
            rotate_left
            ·simp only [Act.put, List.setIfInBounds_toArray, List.set_cons_zero, List.set_cons_succ, i64_w, i32_w]
             rfl
            refine pure_ (i := 19) (N := some 134) (v := undef) (a' := ?_) #[true, true, true, true, true, true, true, true, true, true, true, true, true, true, true, true, true, true, true, true, false, false, false] rfl rfl (any_of HT_.out (by kernel_rfl)) (fun _ _ _ h => h) (Or.inr ⟨by rfl, rfl⟩) ?_ ?_
            rotate_left
            ·simp only [Act.put, List.setIfInBounds_toArray, List.set_cons_zero, List.set_cons_succ, i64_w, i32_w]
             rfl
            refine pure_ (i := 20) (N := some 135) (v := undef) (a' := ?_) #[true, true, true, true, true, true, true, true, true, true, true, true, true, true, true, true, true, true, true, true, true, false, false] rfl rfl (any_of HT_.out (by kernel_rfl)) (fun _ _ _ h => h) (Or.inr ⟨by rfl, rfl⟩) ?_ ?_
            rotate_left
            ·simp only [Act.put, List.setIfInBounds_toArray, List.set_cons_zero, List.set_cons_succ, i64_w, i32_w]
             rfl
            refine pu_ 21 (some 136) (bl_ 23 4194303) ?_
            refine pu_ 22 (some 137) (bl_ 23 8388607) ?_
            refine done_ (done_of HT_.out (by kernel_rfl)) ?_
            try go_wp2
            go_roundg k3
            case measure => have := HJ1.out; have := HJ114.out; have := HK3.out; omega
            case rel => exact ⟨(wrap64 (x5_3 + 1)), (by first | rfl | (simp; done) | (simp [*]; done)), H', ⟨by have := HJ1.out; have := HJ114.out; have := HK3.out; omega⟩, ⟨by (with_reducible repeat (first | refine blk_drewN ?_ _ | refine blk_drew ?_ | refine blk_alloc ?_ _)); exact BK265.out⟩, ⟨by (with_reducible repeat (first | refine blk_drewN ?_ _ | refine blk_drew ?_ | refine blk_alloc ?_ _)); exact BK266.out⟩, ⟨by (with_reducible repeat (first | refine blk_drewN ?_ _ | refine blk_drew ?_ | refine blk_alloc ?_ _)); exact BK267.out⟩, ⟨by repeat (first | (with_reducible first | exact HB.out | apply below_alloc | apply pw_below_drewN | apply below_drew1 | refine below_set ?_ GE265.out | refine below_set ?_ GE266.out | refine below_set ?_ GE267.out) | exact HB.out)⟩⟩
          ·replace c141 := Bool.eq_false_iff.mpr c141
           subst c141
           have H1 : (some false) = some r := by rw [if_neg (show ¬ (false = true) by decide)] at H; exact H
           clear H
           have H := H1
           clear H1
           obtain rfl := Option.some.inj H
           have hnb159 := NB265_266.out
           have hnc159 := NB266_265.out
           have hnb160 := NB265_267.out
           have hnc160 := NB267_265.out
           obtain ⟨C161_0, C161_1, C161_2, C161_3, C161_4, C161_5, C161_6, C161_7, C161_8⟩ := cz9_ BK265.out
           obtain ⟨F161_0, F161_1, F161_2, F161_3, F161_4, F161_5, F161_6, F161_7, F161_8⟩ := fz9_ BK265.out
           try go_wp2
           have n0_ := Aside0.mk (blk_drew BK265.out)
           have n1_ := Aside0.mk (blk_drew BK266.out)
           have n2_ := Aside0.mk (blk_drew BK267.out)
           have n3_ := Aside0.mk (below_drew1 HB.out)
           clear BK265
           clear BK266
           clear BK267
           clear HB
           have BK265 := n0_
           have BK266 := n1_
           have BK267 := n2_
           have HB := n3_
           clear n0_ n1_ n2_ n3_
           have p274 : 0 ≤ (x5_3 : Int) := dt_
           have q274 : x5_3 < (l0_8.length : Int) := dt_
           obtain ⟨ad274, A274_8, c274_8, e274, hx274_0, hx274_1, hx274_2, hx274_3, hx274_4, hx274_5, hx274_6, hx274_7, hx274_8, hl274_8, hi274_8⟩ := at_T27 HR0_8.out x5_3 p274 q274
           have hw274_8 := hx274_8
           have hw274_7 := hx274_7
           have hw274_6 := hx274_6
           have hw274_5 := hx274_5
           have hw274_4 := hx274_4
           have hw274_3 := hx274_3
           have hw274_2 := hx274_2
           have hw274_1 := hx274_1
           have hw274_0 := hx274_0
           cases e274
           replace hx274_0 := hc_ HB hx274_0
           replace hx274_1 := hc_ HB hx274_1
           replace hx274_2 := hc_ HB hx274_2
           replace hx274_3 := hc_ HB hx274_3
           replace hx274_4 := hc_ HB hx274_4
           replace hx274_5 := hc_ HB hx274_5
           replace hx274_6 := hc_ HB hx274_6
           replace hx274_7 := hc_ HB hx274_7
           replace hx274_8 := hc_ HB hx274_8
           have HR274_8 := Aside0.mk hi274_8
           have HC274_8 := Aside0.mk hl274_8
           clear hi274_8 hl274_8
           replace p274 := eq_true p274
           replace q274 := eq_true q274
           refine start_ (n := 23) (S := fun w' => w'.cell? ⟨gb265, 0, none⟩ = some (.int .i64 a0_0) ∧ w'.cell? ⟨gb265, 1, none⟩ = some (.string a0_1) ∧ w'.cell? ⟨gb265, 2, none⟩ = some (.int .i64 a0_2) ∧ w'.cell? ⟨gb265, 3, none⟩ = some (.bool a0_3) ∧ w'.cell? ⟨gb265, 4, none⟩ = some (.int .i64 a0_4) ∧ w'.cell? ⟨gb265, 5, none⟩ = some (.string a0_5) ∧ w'.cell? ⟨gb265, 6, none⟩ = some (.int .i64 a0_6) ∧ w'.cell? ⟨gb265, 7, none⟩ = some (.string a0_7) ∧ w'.cell? ⟨gb265, 8, none⟩ = some (.slice (some ad274) l0_8.length c0_8) ∧ w'.cell? (ad274.add ((x5_3).toNat * 9)) = some (.int .i64 ((rd_T27 l0_8 x5_3).f0)) ∧ w'.cell? ⟨(ad274.add ((x5_3).toNat * 9)).block, (ad274.add ((x5_3).toNat * 9)).off + 1, none⟩ = some (.string ((rd_T27 l0_8 x5_3).f1)) ∧ w'.cell? ⟨(ad274.add ((x5_3).toNat * 9)).block, (ad274.add ((x5_3).toNat * 9)).off + 2, none⟩ = some (.int .i64 ((rd_T27 l0_8 x5_3).f2)) ∧ w'.cell? ⟨(ad274.add ((x5_3).toNat * 9)).block, (ad274.add ((x5_3).toNat * 9)).off + 3, none⟩ = some (.bool ((rd_T27 l0_8 x5_3).f3.f0)) ∧ w'.cell? ⟨(ad274.add ((x5_3).toNat * 9)).block, (ad274.add ((x5_3).toNat * 9)).off + 4, none⟩ = some (.int .i64 ((rd_T27 l0_8 x5_3).f3.f1)) ∧ w'.cell? ⟨(ad274.add ((x5_3).toNat * 9)).block, (ad274.add ((x5_3).toNat * 9)).off + 5, none⟩ = some (.string ((rd_T27 l0_8 x5_3).f3.f2)) ∧ w'.cell? ⟨(ad274.add ((x5_3).toNat * 9)).block, (ad274.add ((x5_3).toNat * 9)).off + 6, none⟩ = some (.int .i64 ((rd_T27 l0_8 x5_3).f4)) ∧ w'.cell? ⟨(ad274.add ((x5_3).toNat * 9)).block, (ad274.add ((x5_3).toNat * 9)).off + 7, none⟩ = some (.string ((rd_T27 l0_8 x5_3).f5)) ∧ w'.cell? ⟨(ad274.add ((x5_3).toNat * 9)).block, (ad274.add ((x5_3).toNat * 9)).off + 8, none⟩ = some (.slice A274_8 ((rd_T27 l0_8 x5_3).f6).length c274_8)) (ds := []) #[false, false, false, false, false, false, false, false, false, false, false, false, false, false, false, false, false, false, false, false, false, false, false] (by kernel_rfl) rfl rfl ⟨(blk_cell BK265.out 0).trans rfl, (blk_cell BK265.out 1).trans rfl, (blk_cell BK265.out 2).trans rfl, (blk_cell BK265.out 3).trans rfl, (blk_cell BK265.out 4).trans rfl, (blk_cell BK265.out 5).trans rfl, (blk_cell BK265.out 6).trans rfl, (blk_cell BK265.out 7).trans rfl, (blk_cell BK265.out 8).trans rfl, ((HB.out.cell (World.block_lt_of_cell? w _ hw274_0)).trans hw274_0), ((HB.out.cell (World.block_lt_of_cell? w _ hw274_1)).trans hw274_1), ((HB.out.cell (World.block_lt_of_cell? w _ hw274_2)).trans hw274_2), ((HB.out.cell (World.block_lt_of_cell? w _ hw274_3)).trans hw274_3), ((HB.out.cell (World.block_lt_of_cell? w _ hw274_4)).trans hw274_4), ((HB.out.cell (World.block_lt_of_cell? w _ hw274_5)).trans hw274_5), ((HB.out.cell (World.block_lt_of_cell? w _ hw274_6)).trans hw274_6), ((HB.out.cell (World.block_lt_of_cell? w _ hw274_7)).trans hw274_7), ((HB.out.cell (World.block_lt_of_cell? w _ hw274_8)).trans hw274_8)⟩ (fun hHeld => ?_); refine with_tabW firkinref17_one.tab31 firkinref17_one.bits31 (fun HT_ HW_ => ?_)
           generalize wr.drew = w162 at BK265 BK266 BK267 HB HR274_8 hx274_0 hx274_1 hx274_2 hx274_3 hx274_4 hx274_5 hx274_6 hx274_7 hx274_8 hHeld ⊢
           refine pu_ 0 (some 115) (bl_ 23 1) ?_
           refine pu_ 2 (some 117) (bl_ 23 5) ?_
           refine ta_ 1 (some 116) (bl_ 23 7) hHeld ?_
           refine pu_ 3 (some 118) (bl_ 23 15) ?_
           refine ta_ 4 (some 119) (bl_ 23 31) hHeld ?_
           refine one_ (i := 5) (N := some 120) #[true, true, true, true, true, true, false, false, false, false, false, false, false, false, false, false, false, false, false, false, false, false, false] rfl rfl (one_of HT_.out (by kernel_rfl)) (by decide) (fun K hK => ?_)
           refine gs_ Try.func78 #[.agg #[.int .i64 ((rd_T27 l0_8 x5_3).f0), .string ((rd_T27 l0_8 x5_3).f1), .int .i64 ((rd_T27 l0_8 x5_3).f2), .bool ((rd_T27 l0_8 x5_3).f3.f0), .int .i64 ((rd_T27 l0_8 x5_3).f3.f1), .string ((rd_T27 l0_8 x5_3).f3.f2), .int .i64 ((rd_T27 l0_8 x5_3).f4), .string ((rd_T27 l0_8 x5_3).f5), .slice A274_8 ((rd_T27 l0_8 x5_3).f6).length c274_8]] ?_
           with_reducible refine (ih k3 (by have := HJ1.out; have := HJ114.out; have := HK3.out; omega) ((rd_T27 l0_8 x5_3).f0) ((rd_T27 l0_8 x5_3).f1) ((rd_T27 l0_8 x5_3).f2) ((rd_T27 l0_8 x5_3).f3.f0) ((rd_T27 l0_8 x5_3).f3.f1) ((rd_T27 l0_8 x5_3).f3.f2) ((rd_T27 l0_8 x5_3).f4) ((rd_T27 l0_8 x5_3).f5) _ _ ((rd_T27 l0_8 x5_3).f6) false _ ?side1 ?side2 A140.out).mono ?_
           (case side1 => repeat (first | exact (Kd.C_below HR274_8.out HB.out) | (with_reducible refine Kd.C_alloc ?_ _) | (with_reducible refine Kd.C_drewN ?_ _) | (with_reducible refine Kd.C_drew ?_)))
           (case side2 => exact HC274_8.out)
           rintro e w163 ⟨rfl, hb⟩
           refine ⟨_, rfl, ?_⟩
           have n0_ := Aside0.mk (blk_below (g := gb265) (o := .cells #[.int .i64 a0_0, .string a0_1, .int .i64 a0_2, .bool a0_3, .int .i64 a0_4, .string a0_5, .int .i64 a0_6, .string a0_7, .slice (some ad274) l0_8.length c0_8] 27 (0, 0)) (by (with_reducible repeat (first | refine blk_drewN ?_ _ | refine blk_drew ?_ | refine blk_alloc ?_ _)); exact BK265.out) hb)
           have n1_ := Aside0.mk (blk_below (g := gb266) (o := .cells #[.int .i64 a0_0, .string a0_1, .int .i64 a0_2, .bool a0_3, .int .i64 a0_4, .string a0_5, .int .i64 a0_6, .string a0_7, .slice none 0 0] 27 (0, 0)) (by (with_reducible repeat (first | refine blk_drewN ?_ _ | refine blk_drew ?_ | refine blk_alloc ?_ _)); exact BK266.out) hb)
           have n2_ := Aside0.mk (blk_below (g := gb267) (o := .cells #[.int .i64 x268000_1, .string x268001_1, .int .i64 x268002_1, .bool x268003_1, .int .i64 x268004_1, .string x268005_1, .int .i64 x268006_1, .string x268007_1, .slice none 0 0] 27 (0, 0)) (by (with_reducible repeat (first | refine blk_drewN ?_ _ | refine blk_drew ?_ | refine blk_alloc ?_ _)); exact BK267.out) hb)
           have n3_ := Aside0.mk (below_step (by repeat (first | (with_reducible first | exact HB.out | apply below_alloc | apply pw_below_drewN | apply below_drew1 | refine below_set ?_ GE265.out | refine below_set ?_ GE266.out | refine below_set ?_ GE267.out) | exact HB.out)) hb)
           clear BK265
           clear BK266
           clear BK267
           clear HB
           have BK265 := n0_
           have BK266 := n1_
           have BK267 := n2_
           have HB := n3_
           clear n0_ n1_ n2_ n3_
           (try clear hb)
           (try clear hb2)
           (try clear hk)
           (try clear hi)
           refine hK.out _ _ ⟨(blk_cell BK265.out 0).trans rfl, (blk_cell BK265.out 1).trans rfl, (blk_cell BK265.out 2).trans rfl, (blk_cell BK265.out 3).trans rfl, (blk_cell BK265.out 4).trans rfl, (blk_cell BK265.out 5).trans rfl, (blk_cell BK265.out 6).trans rfl, (blk_cell BK265.out 7).trans rfl, (blk_cell BK265.out 8).trans rfl, ((HB.out.cell (World.block_lt_of_cell? w _ hw274_0)).trans hw274_0), ((HB.out.cell (World.block_lt_of_cell? w _ hw274_1)).trans hw274_1), ((HB.out.cell (World.block_lt_of_cell? w _ hw274_2)).trans hw274_2), ((HB.out.cell (World.block_lt_of_cell? w _ hw274_3)).trans hw274_3), ((HB.out.cell (World.block_lt_of_cell? w _ hw274_4)).trans hw274_4), ((HB.out.cell (World.block_lt_of_cell? w _ hw274_5)).trans hw274_5), ((HB.out.cell (World.block_lt_of_cell? w _ hw274_6)).trans hw274_6), ((HB.out.cell (World.block_lt_of_cell? w _ hw274_7)).trans hw274_7), ((HB.out.cell (World.block_lt_of_cell? w _ hw274_8)).trans hw274_8)⟩ (fun hHeld => ?_)
           clear hK K
           refine norm_ (a' := ?_) ?_ ?_
           rotate_left
           ·show Act.put _ (some 120) _ = _
            simp only [Act.put, List.setIfInBounds_toArray, List.set_cons_zero, List.set_cons_succ, i64_w, i32_w]
            rfl
           refine pu_ 6 (some 121) (bl_ 23 127) ?_
           refine pu_ 7 (some 122) (bl_ 23 255) ?_
           refine pure_ (i := 8) (N := some 123) (v := undef) (a' := ?_) #[true, true, true, true, true, true, true, true, true, false, false, false, false, false, false, false, false, false, false, false, false, false, false] rfl rfl (any_of HT_.out (by kernel_rfl)) (fun _ _ _ h => h) (Or.inr ⟨by rfl, rfl⟩) ?_ ?_
           rotate_left
           ·simp only [Act.put, List.setIfInBounds_toArray, List.set_cons_zero, List.set_cons_succ, i64_w, i32_w]
            rfl
           refine pure_ (i := 9) (N := some 124) (v := undef) (a' := ?_) #[true, true, true, true, true, true, true, true, true, true, false, false, false, false, false, false, false, false, false, false, false, false, false] rfl rfl (any_of HT_.out (by kernel_rfl)) (fun _ _ _ h => h) (Or.inr ⟨by rfl, rfl⟩) ?_ ?_
           rotate_left
           ·simp only [Act.put, List.setIfInBounds_toArray, List.set_cons_zero, List.set_cons_succ, i64_w, i32_w]
            rfl
           refine pure_ (i := 10) (N := some 125) (v := undef) (a' := ?_) #[true, true, true, true, true, true, true, true, true, true, true, false, false, false, false, false, false, false, false, false, false, false, false] rfl rfl (any_of HT_.out (by kernel_rfl)) (fun _ _ _ h => h) (Or.inr ⟨by rfl, rfl⟩) ?_ ?_
           rotate_left
           ·simp only [Act.put, List.setIfInBounds_toArray, List.set_cons_zero, List.set_cons_succ, i64_w, i32_w]
            rfl
           refine pure_ (i := 11) (N := some 126) (v := undef) (a' := ?_) #[true, true, true, true, true, true, true, true, true, true, true, true, false, false, false, false, false, false, false, false, false, false, false] rfl rfl (any_of HT_.out (by kernel_rfl)) (fun _ _ _ h => h) (Or.inr ⟨by rfl, rfl⟩) ?_ ?_
           rotate_left
           ·simp only [Act.put, List.setIfInBounds_toArray, List.set_cons_zero, List.set_cons_succ, i64_w, i32_w]
            rfl
           refine pure_ (i := 12) (N := some 127) (v := undef) (a' := ?_) #[true, true, true, true, true, true, true, true, true, true, true, true, true, false, false, false, false, false, false, false, false, false, false] rfl rfl (any_of HT_.out (by kernel_rfl)) (fun _ _ _ h => h) (Or.inr ⟨by rfl, rfl⟩) ?_ ?_
           rotate_left
           ·simp only [Act.put, List.setIfInBounds_toArray, List.set_cons_zero, List.set_cons_succ, i64_w, i32_w]
            rfl
           refine pure_ (i := 13) (N := some 128) (v := undef) (a' := ?_) #[true, true, true, true, true, true, true, true, true, true, true, true, true, true, false, false, false, false, false, false, false, false, false] rfl rfl (any_of HT_.out (by kernel_rfl)) (fun _ _ _ h => h) (Or.inr ⟨by rfl, rfl⟩) ?_ ?_
           rotate_left
           ·simp only [Act.put, List.setIfInBounds_toArray, List.set_cons_zero, List.set_cons_succ, i64_w, i32_w]
            rfl
           refine pure_ (i := 14) (N := some 129) (v := undef) (a' := ?_) #[true, true, true, true, true, true, true, true, true, true, true, true, true, true, true, false, false, false, false, false, false, false, false] rfl rfl (any_of HT_.out (by kernel_rfl)) (fun _ _ _ h => h) (Or.inr ⟨by rfl, rfl⟩) ?_ ?_
           rotate_left
           ·simp only [Act.put, List.setIfInBounds_toArray, List.set_cons_zero, List.set_cons_succ, i64_w, i32_w]
            rfl
           refine pure_ (i := 15) (N := some 130) (v := undef) (a' := ?_) #[true, true, true, true, true, true, true, true, true, true, true, true, true, true, true, true, false, false, false, false, false, false, false] rfl rfl (any_of HT_.out (by kernel_rfl)) (fun _ _ _ h => h) (Or.inr ⟨by rfl, rfl⟩) ?_ ?_
           rotate_left
           ·simp only [Act.put, List.setIfInBounds_toArray, List.set_cons_zero, List.set_cons_succ, i64_w, i32_w]
            rfl
           refine pure_ (i := 16) (N := some 131) (v := undef) (a' := ?_) #[true, true, true, true, true, true, true, true, true, true, true, true, true, true, true, true, true, false, false, false, false, false, false] rfl rfl (any_of HT_.out (by kernel_rfl)) (fun _ _ _ h => h) (Or.inr ⟨by rfl, rfl⟩) ?_ ?_
           rotate_left
           ·simp only [Act.put, List.setIfInBounds_toArray, List.set_cons_zero, List.set_cons_succ, i64_w, i32_w]
            rfl
           refine pure_ (i := 17) (N := some 132) (v := undef) (a' := ?_) #[true, true, true, true, true, true, true, true, true, true, true, true, true, true, true, true, true, true, false, false, false, false, false] rfl rfl (any_of HT_.out (by kernel_rfl)) (fun _ _ _ h => h) (Or.inr ⟨by rfl, rfl⟩) ?_ ?_
           rotate_left
           ·simp only [Act.put, List.setIfInBounds_toArray, List.set_cons_zero, List.set_cons_succ, i64_w, i32_w]
            rfl
           refine pure_ (i := 18) (N := some 133) (v := undef) (a' := ?_) #[true, true, true, true, true, true, true, true, true, true, true, true, true, true, true, true, true, true, true, false, false, false, false] rfl rfl (any_of HT_.out (by kernel_rfl)) (fun _ _ _ h => h) (Or.inr ⟨by rfl, rfl⟩) ?_ ?_
           rotate_left
           ·simp only [Act.put, List.setIfInBounds_toArray, List.set_cons_zero, List.set_cons_succ, i64_w, i32_w]
            rfl
           refine pure_ (i := 19) (N := some 134) (v := undef) (a' := ?_) #[true, true, true, true, true, true, true, true, true, true, true, true, true, true, true, true, true, true, true, true, false, false, false] rfl rfl (any_of HT_.out (by kernel_rfl)) (fun _ _ _ h => h) (Or.inr ⟨by rfl, rfl⟩) ?_ ?_
           rotate_left
           ·simp only [Act.put, List.setIfInBounds_toArray, List.set_cons_zero, List.set_cons_succ, i64_w, i32_w]
            rfl
           refine pure_ (i := 20) (N := some 135) (v := undef) (a' := ?_) #[true, true, true, true, true, true, true, true, true, true, true, true, true, true, true, true, true, true, true, true, true, false, false] rfl rfl (any_of HT_.out (by kernel_rfl)) (fun _ _ _ h => h) (Or.inr ⟨by rfl, rfl⟩) ?_ ?_
           rotate_left
           ·simp only [Act.put, List.setIfInBounds_toArray, List.set_cons_zero, List.set_cons_succ, i64_w, i32_w]
            rfl
           refine pure_ (i := 21) (N := some 136) (v := undef) (a' := ?_) #[true, true, true, true, true, true, true, true, true, true, true, true, true, true, true, true, true, true, true, true, true, true, false] rfl rfl (any_of HT_.out (by kernel_rfl)) (fun _ _ _ h => h) (Or.inr ⟨by rfl, rfl⟩) ?_ ?_
           rotate_left
           ·simp only [Act.put, List.setIfInBounds_toArray, List.set_cons_zero, List.set_cons_succ, i64_w, i32_w]
            rfl
           refine pu_ 22 (some 137) (bl_ 23 8388607) ?_
           refine done_ (done_of HT_.out (by kernel_rfl)) ?_
           try go_wp2
           go_ret
           exact en_ HB
         ·rw [if_neg c139] at H
          exact absurd H (by simp)
        ·rw [if_neg c138] at H
         have c138b0 : decide (x5_3 < (l0_8.length : Int)) = false := decide_eq_false c138
         clear c138
         obtain rfl := Option.some.inj H
         have hnb164 := NB265_266.out
         have hnc164 := NB266_265.out
         have hnb165 := NB265_267.out
         have hnc165 := NB267_265.out
         obtain ⟨C166_0, C166_1, C166_2, C166_3, C166_4, C166_5, C166_6, C166_7, C166_8⟩ := cz9_ BK265.out
         obtain ⟨F166_0, F166_1, F166_2, F166_3, F166_4, F166_5, F166_6, F166_7, F166_8⟩ := fz9_ BK265.out
         go_wp2
         go_ret
         exact en_ HB
end Go.Proofs.Ytdedmhmomoejkaa.X
