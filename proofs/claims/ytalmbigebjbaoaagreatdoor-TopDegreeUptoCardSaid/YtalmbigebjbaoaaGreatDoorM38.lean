/- TopDegree, what its proof leans on: the texts AvgF, AvgH, AvgM. -/
import Derived.Test.YtalmbigebjbaoaaGreatDoorM05
import Derived.Test.YtalmbigebjbaoaaGreatDoorM04
import Derived.BigRegion
import Derived.Test.YtalmbigebjbaoaaGreatDoorM01
namespace Go.Proofs.YtalmbigebjbaoaaGreatDoor
open Go.RowKit Go.Shelf
set_option linter.unusedSimpArgs false
set_option linter.unusedVariables false
def meanA (xs : List At) : Ra × Int := if xs.any (fun a => !a.good) then (⟨0, 0⟩, 150) else if sC xs = 0 then (⟨0, 1⟩, 0) else newP (sP xs) (sC xs)
theorem sumsA_bad {xs : List At} (h : (xs.any fun a => !a.good) = true) : sumsA xs = (0, 0, 150) := by unfold sumsA; rw [h]; rfl
theorem sumsA_good {xs : List At} (h : (xs.any fun a => !a.good) = false) : sumsA xs = (sC xs, sP xs, 0) := by unfold sumsA; rw [h]; rfl
theorem meanA_bad {xs : List At} (h : (xs.any fun a => !a.good) = true) : meanA xs = (⟨0, 0⟩, 150) := by unfold meanA; rw [h]; rfl
theorem meanA_zero {xs : List At} (h : (xs.any fun a => !a.good) = false) (h0 : sC xs = 0) : meanA xs = (⟨0, 1⟩, 0) := by unfold meanA; rw [h]; simp [h0]
theorem meanA_some {xs : List At} (h : (xs.any fun a => !a.good) = false) (h0 : ¬ sC xs = 0) : meanA xs = newP (sP xs) (sC xs) := by unfold meanA; rw [h]; simp [h0]
theorem all_good {xs : List At} (h : (xs.any fun a => !a.good) = false) : ∀ x ∈ xs, x.good = true := fun x hx => by have := List.any_eq_false.1 h x hx; simpa using this
set_option maxHeartbeats 2000000 in
theorem Mean_any (xs : List At) (A : Option Addr) (c : Nat) (w : World) (hx : Reads w w.heap.size A 5 At.enc xs) (hl : xs.length ≤ 100000) :
 Calls Tryz.prog 11 #[.slice A xs.length c] w fun e w' => e = .returned (.tuple #[(meanA xs).1.v, .int .i64 (meanA xs).2]) ∧ Below w.heap.size w w' := by
 have HX := Lib.hid hx
 clear hx
 cases hb : xs.any (fun a => !a.good)
 ·have hg := all_good hb
  obtain ⟨b1, b2, b3, b4⟩ := sums_at xs hg
  obtain ⟨s, hs⟩ : ∃ s, s = sC xs := ⟨_, rfl⟩
  obtain ⟨q, hq⟩ : ∃ q, q = sP xs := ⟨_, rfl⟩
  have HS : Hid (sumsA xs = (s, q, 0)) := Lib.hid (by rw [sumsA_good hb, hs, hq])
  have e1 : s ≤ 6000000 := by omega
  have e2 : q ≤ 72000000 := by omega
  have e3 : 0 ≤ s := by omega
  have e4 : 0 ≤ q := by omega
  by_cases h0 : s = 0
  ·rw [meanA_zero hb (by omega)]
   have k0 : (s == 0) = true := by simp [h0]
   simp only [Ra.v]
   clear hb hg b1 b2 b3 b4 hs hq h0
   go_enter Tryz.func11, Tryz.ntmps11
   go_wp2_with fail
   refine (Sums_any xs A c _ ((HX.out.below ((Below.refl _ _).alloc (Nat.le_refl _) _)).more (by simp)) hl).mono ?_
   rw [HS.out]
   rintro e w1 ⟨rfl, hb1⟩
   obtain ⟨lc, lf, hlt1⟩ := below_at w.heap.size rfl hb1 (by simp)
   have l0 := lc 0
   have l1 := lc 1
   have lf0 := lf 0
   have lf1 := lf 1
   simp at l0 l1
   have B1 : Below w.heap.size w w1 := ((Below.refl _ _).alloc (Nat.le_refl _) _).trans (hb1.mono (by simp))
   clear hb1 lc lf
   go_wp2_with fail
   have hc := setB (setA ⟨l0, l1⟩ (.int .i64 0)) (.int .i64 1)
   exact bodyPost_ret (v := .tuple #[.agg #[.int .i64 0, .int .i64 1], .int .i64 0]) (by simp [results, Tryz.results11, go_sem, hc.1, hc.2, hlt1]) rfl ⟨rfl, by go_grown⟩
  ·rw [meanA_some hb (by omega), ← hs, ← hq]
   have k0 : (s == 0) = false := by simp [h0]
   have i1 : I64 q := I64_of (by omega) (by omega)
   have i2 : I64 s := I64_of (by omega) (by omega)
   obtain ⟨⟨⟨n, d⟩, E⟩, hr⟩ : ∃ r, r = newP q s := ⟨_, rfl⟩
   rw [← hr]
   have HR := Lib.hid hr.symm
   have I1 := Lib.hid i1
   have I2 := Lib.hid i2
   simp only [Ra.v]
   clear hb hg b1 b2 b3 b4 hs hq h0 hr i1 i2
   go_enter Tryz.func11, Tryz.ntmps11
   go_wp2_with fail
   refine (Sums_any xs A c _ ((HX.out.below ((Below.refl _ _).alloc (Nat.le_refl _) _)).more (by simp)) hl).mono ?_
   rw [HS.out]
   rintro e w1 ⟨rfl, hb1⟩
   obtain ⟨lc, lf, hlt1⟩ := below_at w.heap.size rfl hb1 (by simp)
   have l0 := lc 0
   have l1 := lc 1
   have lf0 := lf 0
   have lf1 := lf 1
   simp at l0 l1
   have B1 : Below w.heap.size w w1 := ((Below.refl _ _).alloc (Nat.le_refl _) _).trans (hb1.mono (by simp))
   clear hb1 lc lf
   go_wp2_with fail
   refine (New_any q s I1.out I2.out _).mono ?_
   rw [HR.out]
   simp only [Ra.v]
   rintro e w2 ⟨rfl, hb2⟩
   have m0 := (hb2.cell (p := ⟨w.heap.size, 0, none⟩) hlt1).trans l0
   have m1 := (hb2.cell (p := ⟨w.heap.size, 1, none⟩) hlt1).trans l1
   have mf0 := (hb2.frozen (p := ⟨w.heap.size, 0, none⟩) hlt1).trans lf0
   have mf1 := (hb2.frozen (p := ⟨w.heap.size, 1, none⟩) hlt1).trans lf1
   have z2 := hb2.size
   have B2 : Below w.heap.size w w2 := B1.trans (hb2.mono B1.size)
   have hlt2 : w.heap.size < w2.heap.size := by omega
   clear hb2 l0 l1 lf0 lf1
   go_wp2_with fail
   have hc := setB (setA ⟨m0, m1⟩ (.int .i64 n)) (.int .i64 d)
   exact bodyPost_ret (v := .tuple #[.agg #[.int .i64 n, .int .i64 d], .int .i64 E]) (by simp [results, Tryz.results11, go_sem, hc.1, hc.2, hlt2]) rfl ⟨rfl, by go_grown⟩
 ·have HS : Hid (sumsA xs = (0, 0, 150)) := Lib.hid (sumsA_bad hb)
  rw [meanA_bad hb]
  simp only [Ra.v]
  clear hb
  go_enter Tryz.func11, Tryz.ntmps11
  go_wp2_with fail
  refine (Sums_any xs A c _ ((HX.out.below ((Below.refl _ _).alloc (Nat.le_refl _) _)).more (by simp)) hl).mono ?_
  rw [HS.out]
  rintro e w1 ⟨rfl, hb1⟩
  obtain ⟨lc, lf, hlt1⟩ := below_at w.heap.size rfl hb1 (by simp)
  have l0 := lc 0
  have l1 := lc 1
  have lf0 := lf 0
  have lf1 := lf 1
  simp at l0 l1
  have B1 : Below w.heap.size w w1 := ((Below.refl _ _).alloc (Nat.le_refl _) _).trans (hb1.mono (by simp))
  clear hb1 lc lf
  go_wp2_with fail
  have hc := setB (setA ⟨l0, l1⟩ (.int .i64 0)) (.int .i64 0)
  exact bodyPost_ret (v := .tuple #[.agg #[.int .i64 0, .int .i64 0], .int .i64 150]) (by simp [results, Tryz.results11, go_sem, hc.1, hc.2, hlt1]) rfl ⟨rfl, by go_grown⟩
def repl1 (a b : At) : Bool := decide (b.grade < a.grade) || (decide (a.grade = b.grade) && decide (a.term < b.term))
def repl2 (a b : At) : Bool := decide (b.term ≤ a.term)
theorem kinds_any (w : World) :
 Calls Tryz.prog 115 #[] w fun e w' => e = .returned (.agg #[.bool true, .func (.func 155) #[] #[], .bool true, .func (.func 156) #[] #[], .bool false, .nilFunc]) ∧ Below w.heap.size w w' := by
 go_enter Tryz.func115, Tryz.ntmps115
 go_wp2_with fail
 exact bodyPost_ret (v := .agg #[.bool true, .func (.func 155) #[] #[], .bool true, .func (.func 156) #[] #[], .bool false, .nilFunc]) (by simp [results, Tryz.results115, go_sem]) rfl ⟨rfl, by go_grown⟩
set_option maxHeartbeats 2000000 in
theorem kinds1_any (a b : At) (w : World) :
 Calls Tryz.prog 155 #[a.v, b.v] w fun e w' => e = .returned (.bool (repl1 a b)) ∧ Below w.heap.size w w' := by
 obtain ⟨c, t, g, p, k⟩ := a
 obtain ⟨c', t', g', p', k'⟩ := b
 unfold At.v
 have hcase : decide (g' < g) = true ∨ (decide (g' < g) = false ∧ (g == g') = false) ∨ (decide (g' < g) = false ∧ (g == g') = true) := by
  simp; omega
 rcases hcase with d1 | ⟨d1, d2⟩ | ⟨d1, d2⟩
 all_goals
  go_enter Tryz.func155, Tryz.ntmps155
  go_wp2_with fail
  go_ret
  refine ⟨ret_bool ?_, by go_grown⟩
  unfold repl1
  simp_all
theorem kinds2_any (a b : At) (w : World) :
 Calls Tryz.prog 156 #[a.v, b.v] w fun e w' => e = .returned (.bool (repl2 a b)) ∧ Below w.heap.size w w' := by
 obtain ⟨c, t, g, p, k⟩ := a
 obtain ⟨c', t', g', p', k'⟩ := b
 unfold At.v
 go_enter Tryz.func156, Tryz.ntmps156
 go_wp2_with fail
 go_ret
 exact ⟨ret_bool rfl, by go_grown⟩
def betterB (kind : Int) (a b : At) (k i : Nat) : Bool :=
 if kind = 0 then (if a.grade ≠ b.grade then decide (b.grade < a.grade) else if a.term ≠ b.term then decide (a.term < b.term) else decide (k < i))
 else if a.term ≠ b.term then decide (b.term < a.term) else decide (i < k)
end Go.Proofs.YtalmbigebjbaoaaGreatDoor
namespace Go.Proofs.YtalmbigebjbaoaaGreatDoor
set_option linter.unusedSimpArgs false
set_option linter.unusedVariables false
section
variable (f : Nat → At) (r : Nat → Int) (n : Nat)
def okK : Bool := (List.range n).all fun i => decide (0 ≤ r i) && (decide (r i ≤ 2) && (List.range i).all fun k => !(decide ((f i).course = (f k).course) && decide (r i ≠ r k)))
def beats (k i : Nat) : Bool := decide (k ≠ i) && (decide (r i ≠ 2) && (decide ((f k).course = (f i).course) && betterB (r i) (f k) (f i) k i))
def countsB (i : Nat) : Bool := (List.range n).all fun k => !beats f r k i
def countedL : List At := ((List.range n).filter (countsB f r n)).map f
end
def fAt (xs : List At) (i : Nat) : At := xs.getD i default
def rAt (rs : List Int) (i : Nat) : Int := rs.getD i 0
def countedA (xs : List At) (rs : List Int) : List At × Int :=
 if xs.any (fun a => !a.good) then ([], 150) else if rs.length = xs.length then (if okK (fAt xs) (rAt rs) xs.length then (countedL (fAt xs) (rAt rs) xs.length, 0) else ([], 1)) else ([], 1)
section
variable {f : Nat → At} {r : Nat → Int} {n : Nat}
def Okay (f : Nat → At) (r : Nat → Int) (n : Nat) : Prop := (∀ i, i < n → 0 ≤ r i ∧ r i ≤ 2) ∧ ∀ i k, i < n → k < n → (f i).course = (f k).course → r i = r k
theorem okK_iff : okK f r n = true ↔ Okay f r n := by
 unfold okK Okay
 simp only [List.all_eq_true, List.mem_range, Bool.and_eq_true, decide_eq_true_eq, Bool.not_eq_true', Bool.and_eq_false_iff, decide_eq_false_iff_not, ne_eq, Decidable.not_not]
 constructor
 ·intro h
  refine ⟨fun i hi => ⟨(h i hi).1, (h i hi).2.1⟩, fun i k hi hk hc => ?_⟩
  rcases Nat.lt_trichotomy i k with hlt | rfl | hlt
  ·rcases (h k hk).2.2 i hlt with h1 | h1
   ·exact absurd hc.symm h1
   ·exact h1.symm
  ·rfl
  ·rcases (h i hi).2.2 k hlt with h1 | h1
   ·exact absurd hc h1
   ·exact h1
 ·intro ⟨h1, h2⟩ i hi
  refine ⟨(h1 i hi).1, (h1 i hi).2, fun k hk => ?_⟩
  by_cases hc : (f i).course = (f k).course
  ·exact .inr (h2 i k hi (by omega) hc)
  ·exact .inl hc
theorem Okay.zero : Okay f r 0 := ⟨fun i h => absurd h (by omega), fun i k h => absurd h (by omega)⟩
theorem betterB_asymm {kind : Int} {a b : At} {k i : Nat} (h : betterB kind a b k i = true) : betterB kind b a i k = false := by
 unfold betterB at *
 split at h
 ·rename_i hk
  rw [if_pos hk]
  split at h
  ·rename_i hg
   rw [if_pos (Ne.symm hg)]
   simp at h ⊢; omega
  ·rename_i hg
   rw [if_neg (fun e => hg (Ne.symm e))]
   split at h
   ·rename_i ht
    rw [if_pos (Ne.symm ht)]
    simp at h ⊢; omega
   ·rename_i ht
    rw [if_neg (fun e => ht (Ne.symm e))]
    simp at h ⊢; omega
 ·rename_i hk
  rw [if_neg hk]
  split at h
  ·rename_i ht
   rw [if_pos (Ne.symm ht)]
   simp at h ⊢; omega
  ·rename_i ht
   rw [if_neg (fun e => ht (Ne.symm e))]
   simp at h ⊢; omega
theorem betterB_iff {kind : Int} {a b : At} {k i : Nat} : betterB kind a b k i = true ↔
 (kind = 0 ∧ (b.grade < a.grade ∨ a.grade = b.grade ∧ (a.term < b.term ∨ a.term = b.term ∧ k < i))) ∨ (kind ≠ 0 ∧ (b.term < a.term ∨ a.term = b.term ∧ i < k)) := by
 unfold betterB
 split
 ·rename_i hk
  split
  ·simp; omega
  ·split
   ·simp; omega
   ·simp; omega
 ·split
  ·simp; omega
  ·simp; omega
theorem betterB_total {kind : Int} {a b : At} {k i : Nat} (hki : k ≠ i) (h : betterB kind a b k i = false) : betterB kind b a i k = true := by
 rw [betterB_iff]
 have h1 : ¬ betterB kind a b k i = true := by simp [h]
 rw [betterB_iff] at h1
 by_cases hk : kind = 0 <;> omega
theorem betterB_trans {kind : Int} {a b c : At} {i j k : Nat} (h1 : betterB kind a b i j = true) (h2 : betterB kind b c j k = true) : betterB kind a c i k = true := by
 rw [betterB_iff] at *
 by_cases hk : kind = 0 <;> omega
def OfInv (f : Nat → At) (r : Nat → Int) (k : Nat) (L : List (Int × Value)) : Prop :=
 (∀ i, i < k → lookL (f i).course L = some (.int .i64 (r i))) ∧ ∀ c, (∀ i, i < k → (f i).course ≠ c) → lookL c L = none
def CntInv (f : Nat → At) (r : Nat → Int) (k : Nat) (L : List (Int × Value)) : Prop :=
 ∀ c, (lookL c L = none ∧ ∀ i, i < k → (f i).course = c → r i = 2) ∨
   ∃ i, i < k ∧ lookL c L = some (.int .i64 i) ∧ (f i).course = c ∧ r i ≠ 2 ∧ ∀ j, j < k → (f j).course = c → j ≠ i → betterB (r i) (f j) (f i) j i = false
theorem OfInv.zero : OfInv f r 0 [] := ⟨fun i h => absurd h (by omega), fun c _ => rfl⟩
theorem CntInv.zero : CntInv f r 0 [] := fun c => .inl ⟨rfl, fun i h => absurd h (by omega)⟩
theorem OfInv.cases {k : Nat} {L : List (Int × Value)} (h : OfInv f r k L) (c : Int) :
 (lookL c L = none ∧ ∀ i, i < k → (f i).course ≠ c) ∨ ∃ i, i < k ∧ (f i).course = c ∧ lookL c L = some (.int .i64 (r i)) := by
 by_cases hc : ∃ i, i < k ∧ (f i).course = c
 ·obtain ⟨i, hi, rfl⟩ := hc
  exact .inr ⟨i, hi, rfl, h.1 i hi⟩
 ·have h' : ∀ i, i < k → (f i).course ≠ c := fun i hi e => hc ⟨i, hi, e⟩
  exact .inl ⟨h.2 c h', h'⟩
theorem Okay.step {k : Nat} (h : Okay f r k) (h0 : 0 ≤ r k) (h2 : r k ≤ 2) (hc : ∀ i, i < k → (f i).course = (f k).course → r i = r k) : Okay f r (k + 1) := by
 refine ⟨fun i hi => ?_, fun i j hi hj e => ?_⟩
 ·by_cases e : i = k
  ·rw [e]; exact ⟨h0, h2⟩
  ·exact h.1 i (by omega)
 ·by_cases ei : i = k
  ·by_cases ej : j = k
   ·rw [ei, ej]
   ·rw [ei] at e ⊢; exact (hc j (by omega) e.symm).symm
  ·by_cases ej : j = k
   ·rw [ej] at e ⊢; exact hc i (by omega) e
   ·exact h.2 i j (by omega) (by omega) e
theorem OfInv.step {k : Nat} {L : List (Int × Value)} (h : OfInv f r k L) (ho : Okay f r (k + 1)) : OfInv f r (k + 1) (updL (f k).course (.int .i64 (r k)) L) := by
 refine ⟨fun i hi => ?_, fun c hc => ?_⟩
 ·by_cases e : (f i).course = (f k).course
  ·rw [e, lookL_upd, ho.2 i k hi (by omega) e]
  ·rw [lookL_upd_ne e]
   exact h.1 i (by have : i ≠ k := fun x => e (by rw [x]); omega)
 ·rw [lookL_upd_ne (fun e => hc k (by omega) e.symm)]
  exact h.2 c (fun i hi => hc i (by omega))
theorem CntInv.each {k : Nat} {L : List (Int × Value)} (h : CntInv f r k L) (ho : Okay f r (k + 1)) (hr : r k = 2) : CntInv f r (k + 1) L := by
 intro c
 rcases h c with ⟨h1, h2⟩ | ⟨i, hi, h1, h2, h3, h4⟩
 ·refine .inl ⟨h1, fun i hi e => ?_⟩
  by_cases ei : i = k
  ·rw [ei]; exact hr
  ·exact h2 i (by omega) e
 ·refine .inr ⟨i, by omega, h1, h2, h3, fun j hj e hne => ?_⟩
  by_cases ej : j = k
  ·exfalso
   subst ej
   exact h3 (by rw [← hr]; exact ho.2 i j (by omega) (by omega) (by rw [h2, e]))
  ·exact h4 j (by omega) e hne
theorem CntInv.new {k : Nat} {L : List (Int × Value)} (h : CntInv f r k L) (ho : Okay f r (k + 1)) (hr : r k ≠ 2) (hl : lookL (f k).course L = none) : CntInv f r (k + 1) (updL (f k).course (.int .i64 (k : Nat)) L) := by
 have hno : ∀ i, i < k → (f i).course ≠ (f k).course := fun i hi e => by
  rcases h (f k).course with ⟨_, h2⟩ | ⟨j, _, h1, _⟩
  ·exact hr (by rw [← h2 i hi e]; exact (ho.2 i k (by omega) (by omega) e).symm)
  ·rw [hl] at h1; cases h1
 intro c
 by_cases e : (f k).course = c
 ·subst e
  refine .inr ⟨k, by omega, lookL_upd _ _ _, rfl, hr, fun j hj e hne => absurd e (hno j (by omega))⟩
 ·rcases h c with ⟨h1, h2⟩ | ⟨i, hi, h1, h2, h3, h4⟩
  ·refine .inl ⟨by rw [lookL_upd_ne (Ne.symm e)]; exact h1, fun i hi ei => ?_⟩
   by_cases ek : i = k
   ·exact absurd (by rw [← ek]; exact ei) e
   ·exact h2 i (by omega) ei
  ·refine .inr ⟨i, by omega, by rw [lookL_upd_ne (Ne.symm e)]; exact h1, h2, h3, fun j hj ej hne => ?_⟩
   by_cases ek : j = k
   ·exact absurd (by rw [← ek]; exact ej) e
   ·exact h4 j (by omega) ej hne
theorem CntInv.keep {k i : Nat} {L : List (Int × Value)} (h : CntInv f r k L) (hl : lookL (f k).course L = some (.int .i64 (i : Nat))) (hi : i < k) (hb : betterB (r i) (f k) (f i) k i = false) : CntInv f r (k + 1) L := by
 intro c
 rcases h c with ⟨h1, h2⟩ | ⟨j, hj, h1, h2, h3, h4⟩
 ·refine .inl ⟨h1, fun m hm em => ?_⟩
  by_cases ek : m = k
  ·subst ek; subst em; rw [hl] at h1; cases h1
  ·exact h2 m (by omega) em
 ·refine .inr ⟨j, by omega, h1, h2, h3, fun m hm em hne => ?_⟩
  by_cases ek : m = k
  ·subst ek; subst em
   rw [hl] at h1
   simp only [Option.some.injEq, Value.int.injEq, true_and] at h1
   obtain rfl : i = j := by omega
   exact hb
  ·exact h4 m (by omega) em hne
theorem CntInv.take {k i : Nat} {L : List (Int × Value)} (h : CntInv f r k L) (ho : Okay f r (k + 1)) (hr : r k ≠ 2) (hl : lookL (f k).course L = some (.int .i64 (i : Nat))) (hi : i < k) (hb : betterB (r i) (f k) (f i) k i = true) : CntInv f r (k + 1) (updL (f k).course (.int .i64 (k : Nat)) L) := by
 intro c
 by_cases e : (f k).course = c
 ·subst e
  refine .inr ⟨k, by omega, lookL_upd _ _ _, rfl, hr, fun j hj e hne => ?_⟩
  rcases h (f k).course with ⟨h1, _⟩ | ⟨m, hm, h1, h2, h3, h4⟩
  ·rw [hl] at h1; cases h1
  ·rw [hl] at h1
   simp only [Option.some.injEq, Value.int.injEq, true_and] at h1
   obtain rfl : i = m := by omega
   have hrk : r i = r k := ho.2 i k (by omega) (by omega) h2
   rw [hrk] at hb h4
   by_cases hji : j = i
   ·rw [hji]; exact betterB_asymm hb
   ·have h5 := h4 j (by omega) e hji
    cases hx : betterB (r k) (f j) (f k) j k
    ·rfl
    ·have := betterB_trans hx hb
     rw [this] at h5; cases h5
 ·rcases h c with ⟨h1, h2⟩ | ⟨i, hi, h1, h2, h3, h4⟩
  ·refine .inl ⟨by rw [lookL_upd_ne (Ne.symm e)]; exact h1, fun i hi ei => ?_⟩
   by_cases ek : i = k
   ·exact absurd (by rw [← ek]; exact ei) e
   ·exact h2 i (by omega) ei
  ·refine .inr ⟨i, by omega, by rw [lookL_upd_ne (Ne.symm e)]; exact h1, h2, h3, fun j hj ej hne => ?_⟩
   by_cases ek : j = k
   ·exact absurd (by rw [← ek]; exact ej) e
   ·exact h4 j (by omega) ej hne
theorem CntInv.counts {L : List (Int × Value)} (h : CntInv f r n L) (ho : Okay f r n) {i : Nat} (hi : i < n) :
 (lookL (f i).course L = none ∧ countsB f r n i = true) ∨ ∃ j, j < n ∧ lookL (f i).course L = some (.int .i64 (j : Nat)) ∧ countsB f r n i = decide (j = i) := by
 rcases h (f i).course with ⟨h1, h2⟩ | ⟨j, hj, h1, h2, h3, h4⟩
 ·refine .inl ⟨h1, ?_⟩
  unfold countsB beats
  simp [h2 i hi rfl]
 ·refine .inr ⟨j, hj, h1, ?_⟩
  by_cases e : j = i
  ·subst e
   unfold countsB beats
   simp only [decide_true, List.all_eq_true, List.mem_range]
   intro k hk
   by_cases hkj : k = j
   ·simp [hkj]
   ·by_cases hc : (f k).course = (f j).course
    ·simp [hkj, hc, h3, h4 k hk hc hkj]
    ·simp [hc]
  ·have hb := h4 i hi rfl (Ne.symm e)
   have hri : r j = r i := ho.2 j i hj hi h2
   have hb2 := betterB_total (Ne.symm e) hb
   rw [hri] at hb2 h3
   rw [decide_eq_false e]
   unfold countsB
   rw [List.all_eq_false]
   exact ⟨j, by simpa using hj, by simp [beats, e, h3, h2, hb2]⟩
end
section
variable {xs : List At} {rs : List Int}
theorem fAt_some {k : Nat} {x : At} (h : xs[k]? = some x) : fAt xs k = x := by simp [fAt, List.getD, h]
theorem rAt_some {k : Nat} {x : Int} (h : rs[k]? = some x) : rAt rs k = x := by simp [rAt, List.getD, h]
theorem countedA_bad (h : (xs.any fun a => !a.good) = true) : countedA xs rs = ([], 150) := by unfold countedA; rw [h]; rfl
theorem countedA_len (h : (xs.any fun a => !a.good) = false) (hl : ¬ rs.length = xs.length) : countedA xs rs = ([], 1) := by unfold countedA; rw [h]; simp [hl]
theorem countedA_arg (h : (xs.any fun a => !a.good) = false) (hl : rs.length = xs.length) (ho : ¬ Okay (fAt xs) (rAt rs) xs.length) : countedA xs rs = ([], 1) := by
 unfold countedA; rw [h]
 have : okK (fAt xs) (rAt rs) xs.length = false := by rw [← Bool.not_eq_true, okK_iff]; exact ho
 simp [hl, this]
theorem countedA_ok (h : (xs.any fun a => !a.good) = false) (hl : rs.length = xs.length) (ho : Okay (fAt xs) (rAt rs) xs.length) : countedA xs rs = (countedL (fAt xs) (rAt rs) xs.length, 0) := by
 unfold countedA; rw [h]
 have : okK (fAt xs) (rAt rs) xs.length = true := okK_iff.2 ho
 simp [hl, this]
def cntTo (f : Nat → At) (r : Nat → Int) (n k : Nat) : List At := ((List.range k).filter (countsB f r n)).map f
theorem cntTo_step (f : Nat → At) (r : Nat → Int) (n k : Nat) : cntTo f r n (k + 1) = cntTo f r n k ++ (if countsB f r n k then [f k] else []) := by
 unfold cntTo
 rw [List.range_succ, List.filter_append, List.map_append]
 congr 1
 cases h : countsB f r n k <;> simp [List.filter_cons, h]
theorem cntTo_len (f : Nat → At) (r : Nat → Int) (n k : Nat) : (cntTo f r n k).length ≤ k := by
 unfold cntTo
 rw [List.length_map]
 exact Nat.le_trans (List.length_filter_le _ _) (by simp)
end
end Go.Proofs.YtalmbigebjbaoaaGreatDoor
