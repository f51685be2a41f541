/- Words and walks for X.pruneSafe_holds, part 10 of the texts that a program of this session laid together. -/
import Derived.Test.YtdedmhmomoejkaaS1
import Derived.Test.YtdedmhmomoejkaaS7
import Derived.Lib.OthersKept
namespace Go.Proofs.Ytdedmhmomoejkaa.X
open Go.RowKit Go.Proofs.YtdedmhmomoejkaaW.PrintWords Go.Proofs.YtdedmhmomoejkaaW.PrintLast Go.Proofs.YtdedmhmomoejkaaW.PrintMore
set_option linter.unusedVariables false
set_option linter.unusedSimpArgs false
def runesFrom (s : ByteArray) : Nat → Nat → List Int
  | 0, _ => []
  | f + 1, pos => if pos < s.size then ((Utf8.decode s pos).1 : Int) :: runesFrom s f (pos + (Utf8.decode s pos).2) else []
def lowC (c : Int) : Int := if 65 ≤ c ∧ c ≤ 90 then c + 32 else c
def foldR (s : ByteArray) : List Int := (runesFrom s s.size 0).map lowC
theorem width_posF (s : ByteArray) (pos : Nat) (h : pos < s.size) : 1 ≤ (Utf8.decode s pos).2 := by
 by_cases ha : (s[pos]'h).toNat < 128
 ·(
 rw [decode_ascii s pos h ha]
 exact Nat.le_refl _)
 ·exact (decode_high s pos h (by omega)).2
theorem runes_end (s : ByteArray) (fuel pos : Nat) (h : ¬ pos < s.size) : runesFrom s fuel pos = [] := by
 cases fuel with
 | zero => rfl
 | succ f => simp [runesFrom, h]
theorem bound_mono {W : World} {base : Nat} {v : Value} {xs : List Int} (h : Kd.R (Kd.int .i32) 21 W base (fun _ => True) v xs) {K : Nat} (hK : W.heap.size ≤ K) : Kd.R (Kd.int .i32) 21 W base (fun b => b ≠ K) v xs :=
  Kd.R_mono (Kd.R_bound h) (fun k hk e => by have := hk.2.2.1; omega)
set_option maxHeartbeats 8000000 in
set_option maxRecDepth 100000 in
theorem fold15 (s : ByteArray) (hs : s.size ≤ 4398046511104) (w : World) :
    Calls Try.prog 59 #[.string s] w fun e w' => ∃ v0_ : Value, e = .returned v0_ ∧ Kd.R (Kd.int .i32) 21 w' w.heap.size (fun _ => True) v0_ (foldR s) ∧ Below w.heap.size w w' := by
 have HB := Aa.mk (Below.refl w.heap.size w)
 go_enter Try.func59, Try.ntmps59
 go_wp2_with (first | ((with_reducible refine Cv (N := 6) rfl ?_); refine Kd.R_lit (Kd.int .i32) _ 21 ?hg (N := 6) ?hd (xs := ([] : List Int)) (inner := []) (ok := fun _ => True) (okp := fun _ => True) ?hr ?hp (fun _ hk => hk) trivial (Below.refl _ _) (Nat.le_refl _) (by simp) ?_; (case hd => rfl); (case hg => rfl); (case hr => first | (go_simp; done) | (go_simp; rfl)); (case hp => exact (Reps.none _ _)); intro v1 w1 ho hb hg_ hnew_; have HO := Aa.mk ho; have HB1 := Aa.mk hb; clear hg_ hnew_ ho hb))
 have hsz : (w1.iter s 0).heap.size = w1.heap.size + 1 := by simp [World.iter]
 have HO1 := Aa.mk (bound_mono HO.out (Nat.le_refl _))
 go_loopg [3] s.size (fun gk v3 wr => ∃ (pos : Nat) (acc : List Int), s.size ≤ pos + gk ∧ Aa (wr.heap[w1.heap.size]? = some (.stringIter s pos)) ∧ Aa (Below w.heap.size w wr) ∧ Aa (Kd.R (Kd.int .i32) 21 wr w.heap.size (fun b => b ≠ w1.heap.size) v3 acc) ∧ Aa (acc ++ (runesFrom s gk pos).map lowC = foldR s) ∧ Aa (acc.length ≤ pos))
 case atStart =>(
 exact ⟨0, [], by omega, ⟨World.iter_heap w1 s 0⟩, ⟨Ak HB1.out _⟩, ⟨Kd.R_alloc HO1.out _⟩, ⟨rfl⟩, ⟨Nat.le_refl _⟩⟩)
 case round =>(
 obtain ⟨pos, acc, hg, HI, HB2, HO2, HA, HL⟩ := hrel
 have hlt : w1.heap.size < wr.heap.size := (Array.getElem?_eq_some_iff.1 HI.out).1
 by_cases hp : pos < s.size
 ·(
 have hnx : ∀ ty, (Instr.next (.pointer (some ⟨w1.heap.size, 0, none⟩)) true ty).run Try.prog wr = _ := fun ty => Lib.run_next_any_at wr w1.heap.size s pos ty HI.out hp
 obtain ⟨f, rfl⟩ : ∃ f, gk = f + 1 := ⟨gk - 1, by omega⟩
 have hw := width_posF s pos hp
 have hd1 := decode_le s pos
 have HD := Aa.mk hw
 have HI3 := Aa.mk (Lib.iterAt_heap wr w1.heap.size s pos (pos + (Utf8.decode s pos).2) HI.out)
 have HB3 := Aa.mk (Lib.below_iterAt HB2.out (k := w1.heap.size) (Ca HB1.out) s (pos + (Utf8.decode s pos).2))
 have HO3 : Aa (Kd.R (Kd.int .i32) 21 (wr.iterAt w1.heap.size s (pos + (Utf8.decode s pos).2)) w.heap.size (fun b => b ≠ w1.heap.size) u3 acc) := ⟨Kd.R_kept (S := fun k => k = w1.heap.size) HO2.out ⟨by rw [Lib.iterAt_size]; exact Nat.le_refl _, fun k hk hne => Lib.iterAt_other wr w1.heap.size k s _ hne⟩ (fun k hk => hk)⟩
 have HK3 : Aa (w1.heap.size < (wr.iterAt w1.heap.size s (pos + (Utf8.decode s pos).2)).heap.size) := ⟨by rw [Lib.iterAt_size]; exact hlt⟩
 have HN : Aa (some w1.heap.size ≠ u3.ownBlock) := ⟨fun e => HO2.out.1 _ e.symm rfl⟩
 clear HI HB2 HO2 hlt hw
 generalize hwx : wr.iterAt w1.heap.size s (pos + (Utf8.decode s pos).2) = w3 at hnx HI3 HB3 HO3 HK3
 clear hwx
 have hc0 : (0 : Int) ≤ ((Utf8.decode s pos).1 : Int) := by omega
 have hc1 : ((Utf8.decode s pos).1 : Int) ≤ 2147483647 := by omega
 have HCC : Aa (((Utf8.decode s pos).1 : Int) = ((Utf8.decode s pos).1 : Int)) := ⟨rfl⟩
 generalize hcc : ((Utf8.decode s pos).1 : Int) = c at hnx hc0 hc1
 by_cases h65 : 65 ≤ c
 ·(
 by_cases h90 : c ≤ 90
 ·(
 have d1 : decide (65 ≤ c) = true := decide_eq_true h65
 have d2 : decide (c ≤ 90) = true := decide_eq_true h90
 have HC : Aa (lowC ((Utf8.decode s pos).1 : Int) = c - 65 + 97) := ⟨by rw [hcc, lowC, if_pos ⟨h65, h90⟩]; omega⟩
 clear hcc
 go_wp2_with (first | ((with_reducible refine Dg (b := .append) (xs := #[.tmp 21, .tmp 23]) rfl ?_); at_builtin; refine Kd.R_append (Kd.int .i32) (w0 := w) w.heap.size rfl (.tmp 21) (.tmp 23) 93 21 (.int .i32 0) 4 rfl Try.underlying93 info21 rfl (by decide) (by omega) u3 acc (c - 65 + 97 : Int) [.int .i32 (c - 65 + 97)] (fun b => b ≠ w1.heap.size) (fun _ => False) rfl rfl ?aP (fun _ hk => hk.elim) ?aF ?aO ?aB ?aS ?aL ?_; (case aP => exact rfl); (case aB => exact HB3.out); (case aF => exact (fun k hk => by have := HK3.out; omega)); (case aO => exact HO3.out); (case aS => exact (Ca HB3.out)); (case aL => have := HL.out; omega); intro v4 w4 ho hb hg hat; have HO4 := Aa.mk ho; have HB4 := Aa.mk hb; have HI4 := Aa.mk ((hg.block w1.heap.size HK3.out HN.out).trans HI3.out); clear ho hb hg hat))
 go_roundg f
 case measure => omega
 case rel =>(
 have hd := HD.out
 refine ⟨pos + (Utf8.decode s pos).2, acc ++ [c - 65 + 97], by omega, HI4, HB4, HO4, ⟨?_⟩, ⟨by have := HL.out; simp; omega⟩⟩
 rw [← HA.out]
 simp only [runesFrom, if_pos hp, List.map_cons, List.append_assoc, List.singleton_append]
 rw [HC.out]))
 ·(
 have d1 : decide (65 ≤ c) = true := decide_eq_true h65
 have d2 : decide (c ≤ 90) = false := decide_eq_false h90
 have HC : Aa (lowC ((Utf8.decode s pos).1 : Int) = c) := ⟨by rw [hcc, lowC, if_neg (fun h => h90 h.2)]⟩
 clear hcc
 go_wp2_with (first | ((with_reducible refine Dg (b := .append) (xs := #[.tmp 21, .tmp 23]) rfl ?_); at_builtin; refine Kd.R_append (Kd.int .i32) (w0 := w) w.heap.size rfl (.tmp 21) (.tmp 23) 93 21 (.int .i32 0) 4 rfl Try.underlying93 info21 rfl (by decide) (by omega) u3 acc (c : Int) [.int .i32 (c)] (fun b => b ≠ w1.heap.size) (fun _ => False) rfl rfl ?aP (fun _ hk => hk.elim) ?aF ?aO ?aB ?aS ?aL ?_; (case aP => exact rfl); (case aB => exact HB3.out); (case aF => exact (fun k hk => by have := HK3.out; omega)); (case aO => exact HO3.out); (case aS => exact (Ca HB3.out)); (case aL => have := HL.out; omega); intro v4 w4 ho hb hg hat; have HO4 := Aa.mk ho; have HB4 := Aa.mk hb; have HI4 := Aa.mk ((hg.block w1.heap.size HK3.out HN.out).trans HI3.out); clear ho hb hg hat))
 go_roundg f
 case measure => omega
 case rel =>(
 have hd := HD.out
 refine ⟨pos + (Utf8.decode s pos).2, acc ++ [c], by omega, HI4, HB4, HO4, ⟨?_⟩, ⟨by have := HL.out; simp; omega⟩⟩
 rw [← HA.out]
 simp only [runesFrom, if_pos hp, List.map_cons, List.append_assoc, List.singleton_append]
 rw [HC.out])))
 ·(
 have d1 : decide (65 ≤ c) = false := decide_eq_false h65
 have HC : Aa (lowC ((Utf8.decode s pos).1 : Int) = c) := ⟨by rw [hcc, lowC, if_neg (fun h => h65 h.1)]⟩
 clear hcc
 go_wp2_with (first | ((with_reducible refine Dg (b := .append) (xs := #[.tmp 21, .tmp 23]) rfl ?_); at_builtin; refine Kd.R_append (Kd.int .i32) (w0 := w) w.heap.size rfl (.tmp 21) (.tmp 23) 93 21 (.int .i32 0) 4 rfl Try.underlying93 info21 rfl (by decide) (by omega) u3 acc (c : Int) [.int .i32 (c)] (fun b => b ≠ w1.heap.size) (fun _ => False) rfl rfl ?aP (fun _ hk => hk.elim) ?aF ?aO ?aB ?aS ?aL ?_; (case aP => exact rfl); (case aB => exact HB3.out); (case aF => exact (fun k hk => by have := HK3.out; omega)); (case aO => exact HO3.out); (case aS => exact (Ca HB3.out)); (case aL => have := HL.out; omega); intro v4 w4 ho hb hg hat; have HO4 := Aa.mk ho; have HB4 := Aa.mk hb; have HI4 := Aa.mk ((hg.block w1.heap.size HK3.out HN.out).trans HI3.out); clear ho hb hg hat))
 go_roundg f
 case measure => omega
 case rel =>(
 have hd := HD.out
 refine ⟨pos + (Utf8.decode s pos).2, acc ++ [c], by omega, HI4, HB4, HO4, ⟨?_⟩, ⟨by have := HL.out; simp; omega⟩⟩
 rw [← HA.out]
 simp only [runesFrom, if_pos hp, List.map_cons, List.append_assoc, List.singleton_append]
 rw [HC.out])))
 ·(
 have hnx : ∀ ty, (Instr.next (.pointer (some ⟨w1.heap.size, 0, none⟩)) true ty).run Try.prog wr = _ := fun ty => Lib.run_next_end_at wr w1.heap.size s pos ty HI.out hp
 go_wp2
 go_ret
 have e := HA.out
 rw [runes_end s gk pos hp, List.map_nil, List.append_nil] at e
 subst e
 exact ⟨_, rfl, Kd.R_mono HO2.out (fun _ _ => trivial), HB2.out⟩))
def atB : List Int → List Int → Bool
  | [], _ => true
  | _ :: _, [] => false
  | c :: p, d :: s => (c == 95 || c == d) && atB p s
def findI (p : List Int) : List Int → Int
  | [] => if atB p [] = true then 0 else -1
  | d :: s => if atB p (d :: s) = true then 0 else if findI p s < 0 then -1 else findI p s + 1
theorem atB_short : ∀ (p s : List Int), s.length < p.length → atB p s = false
  | [], s, h => by simp at h
  | c :: p, [], _ => rfl
  | c :: p, d :: s, h => by rw [atB, atB_short p s (by simpa using h), Bool.and_false]
theorem findI_short (p : List Int) : ∀ (s : List Int), s.length < p.length → findI p s = -1
  | [], h => by rw [findI, atB_short p [] h]; rfl
  | d :: s, h => by
    have h' : s.length < p.length := by simp at h; omega
    rw [findI, atB_short p (d :: s) h, findI_short p s h']
    rfl
theorem findI_bound (p : List Int) : ∀ (s : List Int), findI p s = -1 ∨ 0 ≤ findI p s ∧ findI p s + p.length ≤ s.length
  | [] => by
    by_cases h : p.length = 0
    · rw [findI]; split <;> simp [h]
    · exact .inl (findI_short p [] (by simp; omega))
  | d :: s => by
    rw [findI]
    by_cases h : atB p (d :: s) = true
    · rw [if_pos h]
      refine .inr ⟨Int.le_refl _, ?_⟩
      by_cases hl : (d :: s).length < p.length
      · rw [atB_short p _ hl] at h; cases h
      · omega
    · rw [if_neg h]
      rcases findI_bound p s with h1 | h1
      · rw [if_pos (by omega)]; exact .inl rfl
      · rw [if_neg (by omega)]
        refine .inr ⟨by omega, by simp; omega⟩
theorem rd_get (l : List Int) (i : Nat) (h : i < l.length) : rd l (i : Int) = l[i] := by
 simp only [rd, Int.toNat_natCast, List.getD_eq_getElem?_getD, List.getElem?_eq_getElem h, Option.getD_some]
def idxI (a : Int) : List Int → Int
  | [] => -1
  | c :: r => if a = c then 0 else if idxI a r < 0 then -1 else idxI a r + 1
theorem idxI_bound (a : Int) : ∀ (s : List Int), idxI a s = -1 ∨ 0 ≤ idxI a s ∧ idxI a s < s.length
  | [] => .inl rfl
  | c :: r => by
    rw [idxI]
    by_cases h : a = c
    · rw [if_pos h]; exact .inr ⟨Int.le_refl _, by simp only [List.length_cons]; omega⟩
    · rw [if_neg h]
      rcases idxI_bound a r with h1 | h1
      · rw [h1]; exact .inl rfl
      · rw [if_neg (by omega)]; exact .inr ⟨by omega, by simp; omega⟩
def splitL : List Int → List (List Int)
  | [] => [[]]
  | c :: r => if 37 = c then [] :: splitL r else match splitL r with
    | [] => [[c]]
    | h :: t => (c :: h) :: t
theorem split_ne : ∀ (s : List Int), splitL s ≠ []
  | [] => by simp [splitL]
  | c :: r => by
    rw [splitL]
    split
    · simp
    · cases splitL r <;> simp
def midL : List (List Int) → List Int → Bool
  | [], _ => true
  | p :: r, t => if findI p t < 0 then false else midL r (t.drop (findI p t + p.length).toNat)
def matchL (l : List (List Int)) (t : List Int) : Bool :=
  if l.length = 1 then ((rd_L10 l 0).length == t.length && atB (rd_L10 l 0) t)
  else if t.length < (rd_L10 l 0).length + (rd_L10 l (l.length - 1)).length then false
  else if atB (rd_L10 l 0) t = false then false
  else if atB (rd_L10 l (l.length - 1)) (t.drop (t.length - (rd_L10 l (l.length - 1)).length)) = false then false
  else midL ((l.take (l.length - 1)).drop 1) ((t.take (t.length - (rd_L10 l (l.length - 1)).length)).drop (rd_L10 l 0).length)
theorem runes_len (s : ByteArray) : ∀ (f pos : Nat), (runesFrom s f pos).length ≤ f
  | 0, _ => Nat.le_refl _
  | f + 1, pos => by
    rw [runesFrom]
    split
    · have := runes_len s f (pos + (Utf8.decode s pos).2)
      simp only [List.length_cons]; omega
    · simp
theorem foldR_len (s : ByteArray) : (foldR s).length ≤ s.size := by
 rw [foldR, List.length_map]
 exact runes_len s s.size 0
def globM (pat s : ByteArray) : Bool := matchL (splitL (foldR pat)) (foldR s)
def anyS (f : List Int → Bool) : List Int → Bool
  | [] => f []
  | d :: r => f (d :: r) || anyS f r
theorem anyS_iff (f : List Int → Bool) : ∀ (t : List Int), anyS f t = true ↔ ∃ k, k ≤ t.length ∧ f (t.drop k) = true
  | [] => by
    rw [anyS]
    exact ⟨fun h => ⟨0, Nat.le_refl _, h⟩, fun ⟨k, _, h⟩ => by simpa using h⟩
  | d :: r => by
    rw [anyS, Bool.or_eq_true, anyS_iff f r]
    constructor
    · rintro (h | ⟨k, hk, h⟩)
      · exact ⟨0, Nat.zero_le _, h⟩
      · exact ⟨k + 1, by simp; omega, h⟩
    · rintro ⟨k, hk, h⟩
      cases k with
      | zero => exact .inl h
      | succ k => exact .inr ⟨k, by simp at hk; omega, h⟩
def wild : List Int → List Int → Bool
  | [], t => t.isEmpty
  | c :: p, t => if 37 = c then anyS (wild p) t else match t with
    | [] => false
    | d :: t => (c == 95 || c == d) && wild p t
theorem wild_nil (t : List Int) : wild [] t = t.isEmpty := by rw [wild.eq_def]
theorem wild_many (p t : List Int) : wild (37 :: p) t = anyS (wild p) t := by rw [wild.eq_def]; exact if_pos rfl
theorem wild_none (c : Int) (p : List Int) (h : ¬ 37 = c) : wild (c :: p) [] = false := by rw [wild.eq_def]; exact if_neg h
theorem wild_one (c : Int) (p : List Int) (d : Int) (t : List Int) (h : ¬ 37 = c) : wild (c :: p) (d :: t) = ((c == 95 || c == d) && wild p t) := by rw [wild.eq_def]; exact if_neg h
def wildP : List (List Int) → List Int → Bool
  | [], t => t.isEmpty
  | [h], t => h.length == t.length && atB h t
  | h :: g :: r, t => atB h t && anyS (wildP (g :: r)) (t.drop h.length)
theorem wild_parts : ∀ (p t : List Int), wild p t = wildP (splitL p) t
  | [], t => by
    rw [wild_nil]
    show t.isEmpty = (([] : List Int).length == t.length && atB [] t)
    cases t <;> simp [atB]
  | c :: p, t => by
    have ih := wild_parts p
    rw [splitL]
    by_cases h : 37 = c
    · subst h
      rw [if_pos rfl, wild_many]
      have hf : wild p = wildP (splitL p) := funext ih
      rw [hf]
      cases hs : splitL p with
      | nil => exact absurd hs (split_ne p)
      | cons g r => rw [wildP]; cases t <;> simp [atB]
    · rw [if_neg h]
      cases hs : splitL p with
      | nil => exact absurd hs (split_ne p)
      | cons g r =>
        cases t with
        | nil => rw [wild_none c p h]; cases r <;> simp [wildP, atB]
        | cons d t =>
          rw [wild_one c p d t h, ih t, hs]
          cases r with
          | nil =>
            rw [wildP, wildP, atB]
            simp only [List.length_cons]
            rw [show (g.length + 1 == t.length + 1) = (g.length == t.length) by simp]
            cases (c == 95 || c == d) <;> simp
          | cons a b =>
            rw [wildP, wildP, atB]
            simp only [List.length_cons, List.drop_succ_cons, Bool.and_assoc]
theorem atB_take : ∀ (p s : List Int) (j : Nat), p.length ≤ j → atB p (s.take j) = atB p s
  | [], s, j, _ => by cases s <;> cases j <;> rfl
  | c :: p, [], j, _ => by simp
  | c :: p, d :: s, 0, h => by simp at h
  | c :: p, d :: s, j + 1, h => by
    rw [List.take_succ_cons, atB, atB, atB_take p s j (by simpa using h)]
theorem findI_at (p : List Int) : ∀ (s : List Int), 0 ≤ findI p s → atB p (s.drop (findI p s).toNat) = true
  | [], h => by
    rw [findI] at h ⊢
    split at h
    · rename_i g; rw [if_pos g]; exact g
    · omega
  | d :: s, h => by
    rw [findI] at h ⊢
    by_cases g : atB p (d :: s) = true
    · rw [if_pos g]; exact g
    · rw [if_neg g] at h ⊢
      by_cases g2 : findI p s < 0
      · rw [if_pos g2] at h; omega
      · rw [if_neg g2] at h ⊢
        have := findI_at p s (by omega)
        rw [show (findI p s + 1).toNat = (findI p s).toNat + 1 by omega, List.drop_succ_cons]
        exact this
theorem findI_first (p : List Int) : ∀ (s : List Int) (k : Nat), k ≤ s.length → atB p (s.drop k) = true → 0 ≤ findI p s ∧ findI p s ≤ k
  | [], k, hk, h => by
    rw [findI, if_pos (by simpa using h)]; omega
  | d :: s, k, hk, h => by
    rw [findI]
    by_cases g : atB p (d :: s) = true
    · rw [if_pos g]; omega
    · rw [if_neg g]
      cases k with
      | zero => exact absurd h g
      | succ k =>
        have := findI_first p s k (by simpa using hk) h
        rw [if_neg (by omega)]; omega
theorem midL_mono : ∀ (ms : List (List Int)) (x : List Int) (n : Nat), midL ms (x.drop n) = true → midL ms x = true
  | [], _, _, _ => rfl
  | m :: ms, x, n, h => by
    rw [midL] at h ⊢
    by_cases g : findI m (x.drop n) < 0
    · rw [if_pos g] at h; cases h
    · rw [if_neg g] at h
      have ha := findI_at m (x.drop n) (by omega)
      rcases findI_bound m (x.drop n) with hb | hb
      · omega
      · rw [List.drop_drop] at ha
        rw [List.length_drop] at hb
        by_cases hn : n ≤ x.length
        · have hf := findI_first m x (n + (findI m (x.drop n)).toNat) (by omega) ha
          rw [if_neg (by omega)]
          rw [List.drop_drop] at h
          refine midL_mono ms _ (n + (findI m (x.drop n) + m.length).toNat - (findI m x + m.length).toNat) ?_
          rw [List.drop_drop]
          rw [show (findI m x + (m.length : Int)).toNat + (n + (findI m (x.drop n) + m.length).toNat - (findI m x + m.length).toNat) = n + (findI m (x.drop n) + m.length).toNat by omega]
          exact h
        · have hx : x.drop n = [] := List.drop_of_length_le (by omega)
          rw [hx] at g hb h ha
          have hm0 : m.length = 0 := by omega
          have hm : m = [] := List.length_eq_zero_iff.1 hm0
          subst hm
          have hf : findI [] x = 0 := by cases x <;> simp [findI, atB]
          rw [hf, if_neg (by omega)]
          refine midL_mono ms _ x.length ?_
          rw [List.drop_drop, List.drop_of_length_le (by omega)]
          rw [List.drop_nil] at h
          exact h
theorem wild_mids (z : List Int) : ∀ (ms : List (List Int)) (s : List Int), anyS (wildP (ms ++ [z])) s = true ↔ z.length ≤ s.length ∧ atB z (s.drop (s.length - z.length)) = true ∧ midL ms (s.take (s.length - z.length)) = true
  | [], s => by
    rw [anyS_iff]
    simp only [List.nil_append, wildP, Bool.and_eq_true, beq_iff_eq, List.length_drop, midL, and_true]
    constructor
    · rintro ⟨k, hk, h1, h2⟩
      refine ⟨by omega, ?_⟩
      rw [show s.length - z.length = k by omega]; exact h2
    · rintro ⟨h1, h2⟩
      exact ⟨s.length - z.length, by omega, by omega, h2⟩
  | m :: ms, s => by
    rw [anyS_iff]
    have hw : ∀ t, wildP (m :: ms ++ [z]) t = (atB m t && anyS (wildP (ms ++ [z])) (t.drop m.length)) := by
      intro t
      cases ms with
      | nil => rfl
      | cons a b => rfl
    simp only [hw, Bool.and_eq_true, wild_mids z ms, List.length_drop, List.drop_drop]
    rw [midL]
    generalize hu : s.take (s.length - z.length) = u
    have hul : u.length = s.length - z.length := by rw [← hu, List.length_take]; omega
    have hdt : ∀ n, u.drop n = (s.drop n).take (s.length - z.length - n) := by intro n; rw [← hu, List.drop_take]
    constructor
    · rintro ⟨k, hk, h1, h2, h3, h4⟩
      by_cases hkm : k + m.length ≤ s.length
      · have hz : z.length ≤ s.length := by omega
        rw [show k + m.length + (s.length - (k + m.length) - z.length) = s.length - z.length by omega] at h3
        refine ⟨hz, h3, ?_⟩
        have hau : atB m (u.drop k) = true := by rw [hdt, atB_take _ _ _ (by omega)]; exact h1
        have hf := findI_first m u k (by omega) hau
        rw [if_neg (by omega)]
        refine midL_mono ms _ (k + m.length - (findI m u + m.length).toNat) ?_
        rw [List.drop_drop, show (findI m u + (m.length : Int)).toNat + (k + m.length - (findI m u + m.length).toNat) = k + m.length by omega, hdt]
        rw [show s.length - z.length - (k + m.length) = s.length - (k + m.length) - z.length by omega]
        exact h4
      · rw [atB_short m _ (by rw [List.length_drop]; omega)] at h1
        cases h1
    · rintro ⟨hz, h3, h4⟩
      by_cases g : findI m u < 0
      · rw [if_pos g] at h4; cases h4
      · rw [if_neg g] at h4
        have ha := findI_at m u (by omega)
        rcases findI_bound m u with hb | hb
        · omega
        · refine ⟨(findI m u).toNat, by omega, ?_, by omega, ?_, ?_⟩
          · rw [hdt, atB_take _ _ _ (by omega)] at ha; exact ha
          · rw [show (findI m u).toNat + m.length + (s.length - ((findI m u).toNat + m.length) - z.length) = s.length - z.length by omega]; exact h3
          · rw [hdt, show (findI m u + (m.length : Int)).toNat = (findI m u).toNat + m.length by omega] at h4
            rw [show s.length - ((findI m u).toNat + m.length) - z.length = s.length - z.length - ((findI m u).toNat + m.length) by omega]
            exact h4
theorem rdL_get (l : List (List Int)) (i : Nat) (h : i < l.length) : rd_L10 l (i : Int) = l[i] := by
 simp only [rd_L10, Int.toNat_natCast, List.getD_eq_getElem?_getD, List.getElem?_eq_getElem h, Option.getD_some]
theorem match_parts (l : List (List Int)) (hl : l ≠ []) (t : List Int) : matchL l t = wildP l t := by
 match l, hl with
 | [h], _ => unfold matchL; exact if_pos (show ([h] : List (List Int)).length = 1 by rfl)
 | h :: g :: r, _ =>(
 obtain ⟨ms, z, hr⟩ : ∃ ms z, g :: r = ms ++ [z] := ⟨(g :: r).dropLast, (g :: r).getLast (by simp), (List.dropLast_concat_getLast (by simp)).symm⟩
 have hlen : (h :: g :: r).length = ms.length + 2 := by rw [hr]; simp
 have e0 : rd_L10 (h :: g :: r) 0 = h := rfl
 have e1 : rd_L10 (h :: g :: r) (((h :: g :: r).length : Int) - 1) = z := by(
 rw [show (((h :: g :: r).length : Int) - 1) = ((ms.length + 1 : Nat) : Int) by omega, rdL_get _ _ (by omega)]
 simp [hr])
 have e2 : (((h :: g :: r).take ((h :: g :: r).length - 1)).drop 1) = ms := by rw [hlen, hr]; simp
 unfold matchL
 rw [e1, e0, e2, if_neg (by omega)]
 rw [wildP, hr]
 rw [Bool.eq_iff_iff, Bool.and_eq_true, wild_mids]
 simp only [List.length_drop, List.drop_drop]
 have hdt : (t.take (t.length - z.length)).drop h.length = (t.drop h.length).take (t.length - h.length - z.length) := by rw [List.drop_take]; congr 1; omega
 rw [hdt]
 by_cases c1 : t.length < h.length + z.length
 ·(
 rw [if_pos c1]
 constructor
 ·intro h'; cases h'
 ·(
 rintro ⟨a1, a2, a3, a4⟩
 by_cases hs : t.length < h.length
 ·rw [atB_short h t hs] at a1; cases a1
 ·omega))
 ·(
 rw [if_neg c1]
 by_cases c2 : atB h t = false
 ·rw [if_pos c2, c2]; simp
 ·(
 rw [if_neg c2]
 have c2' : atB h t = true := by simpa using c2
 rw [show h.length + (t.length - h.length - z.length) = t.length - z.length by omega]
 by_cases c3 : atB z (t.drop (t.length - z.length)) = false
 ·rw [if_pos c3, c3]; simp
 ·(
 rw [if_neg c3]
 have c3' : atB z (t.drop (t.length - z.length)) = true := by simpa using c3
 constructor
 ·intro h4; exact ⟨c2', by omega, c3', h4⟩
 ·rintro ⟨_, _, _, h4⟩; exact h4))))
theorem globM_wild (pat s : ByteArray) : globM pat s = wild (foldR pat) (foldR s) := by
 rw [globM, match_parts _ (split_ne _), wild_parts]
attribute [local go_sem] max2_int max_two
def Cg.f (a0 : ByteArray) : Option (List Int) := if a0.size ≤ 4398046511104 then some (foldR a0) else none
set_option maxHeartbeats 8000000 in
set_option maxRecDepth 100000 in
theorem Cg.calls (a0 : ByteArray) (r : List Int) (w : World) (h : Cg.f a0 = some r) :
    Calls Try.prog 59 #[.string a0] w fun e w' => ∃ v0_ : Value, e = .returned (v0_) ∧ Kd.R (Kd.int .i32) 21 w' w.heap.size (fun _ => True) v0_ r ∧ Below w.heap.size w w' := by
 unfold Cg.f at h
 by_cases hk : a0.size ≤ 4398046511104
 ·(
 rw [if_pos hk] at h
 obtain rfl := Dp h
 exact fold15 a0 hk w)
 ·(
 rw [if_neg hk] at h
 exact absurd h (by simp))
end Go.Proofs.Ytdedmhmomoejkaa.X
