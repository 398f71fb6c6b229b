/- Averages between the least and the greatest grade; when a goal is reached: plain laws. -/
import Derived.Test.YtimaealmmjdjkaaAvRatP
import Derived.Test.YtimaealmmjdjkaaAvgL2
namespace Go.Proofs.Ytimaealmmjdjkaa
set_option linter.unusedSimpArgs false
set_option linter.unusedVariables false

/-- the mean of valid attempts with credits -/
theorem mean_good {xs : List At} (h : (xs.any fun a => !a.good) = false) (hl : xs.length ≤ 1000) (hc : 0 < sC xs) : ∃ r, meanA xs = (r, 0) ∧ okR r ∧ r.num * sC xs = sP xs * r.den := by
  obtain ⟨b1, b2, b3, b4⟩ := sums_at xs (all_good h)
  rw [meanA_some h (by omega)]
  exact newP_fit (by omega) (by omega) (by omega) (by omega)
theorem mean_error {xs : List At} (hl : xs.length ≤ 1000) : ((meanA xs).2 = 0 ∧ (xs.any fun a => !a.good) = false) ∨ (meanA xs = (⟨0, 0⟩, 150) ∧ (xs.any fun a => !a.good) = true) := by
  cases h : (xs.any fun a => !a.good)
  · by_cases hc : sC xs = 0
    · exact .inl ⟨by rw [meanA_zero h hc], rfl⟩
    · have := (sums_at xs (all_good h)).1
      obtain ⟨r, hr, _⟩ := mean_good h hl (by omega)
      exact .inl ⟨by rw [hr], rfl⟩
  · exact .inr ⟨meanA_bad h, rfl⟩
theorem meanA_i64 (xs : List At) : (meanA xs).1.i64 := by
  unfold meanA
  split
  · exact ⟨by unfold I64; decide, by unfold I64; decide⟩
  · split
    · exact ⟨by unfold I64; decide, by unfold I64; decide⟩
    · exact newP_i64 _ _

/-- the least and the greatest grade with credits -/
def stepB (s : Int × Int × Bool) (x : At) : Int × Int × Bool := if 0 < x.credits then (min s.1 x.grade, max s.2.1 x.grade, true) else s
def foldB (l : List At) : Int × Int × Bool := l.foldl stepB (12, 0, false)
theorem foldB_snoc (l : List At) (x : At) : foldB (l ++ [x]) = stepB (foldB l) x := by simp [foldB, List.foldl_append]
theorem foldB_at : ∀ (l : List At) (s : Int × Int × Bool) (C P : Int), (∀ x ∈ l, x.good = true) → (0 ≤ s.1 ∧ s.1 ≤ 12 ∧ 0 ≤ s.2.1 ∧ s.2.1 ≤ 12 ∧ 0 ≤ C ∧ s.1 * C ≤ P ∧ P ≤ s.2.1 * C ∧ (s.2.2 = false → C = 0) ∧ (s.2.2 = true → 0 < C)) →
    (0 ≤ (l.foldl stepB s).1 ∧ (l.foldl stepB s).1 ≤ 12 ∧ 0 ≤ (l.foldl stepB s).2.1 ∧ (l.foldl stepB s).2.1 ≤ 12 ∧ 0 ≤ C + sC l ∧ (l.foldl stepB s).1 * (C + sC l) ≤ P + sP l ∧ P + sP l ≤ (l.foldl stepB s).2.1 * (C + sC l) ∧ ((l.foldl stepB s).2.2 = false → C + sC l = 0) ∧ ((l.foldl stepB s).2.2 = true → 0 < C + sC l))
  | [], s, C, P, _, h => by simpa [sC, sP] using h
  | x :: l, s, C, P, hg, h => by
    obtain ⟨g1, g2, g3, g4, _, _⟩ := good_at (hg x (List.mem_cons_self ..))
    obtain ⟨h1, h2, h3, h4, h5, h6, h7, h8, h9⟩ := h
    have key := foldB_at l (stepB s x) (C + x.credits) (P + x.grade * x.credits) (fun y hy => hg y (List.mem_cons_of_mem _ hy)) (by
      unfold stepB
      split
      · rename_i hc
        refine ⟨by simp only; omega, by simp only; omega, by simp only; omega, by simp only; omega, by omega, ?_, ?_, by simp, fun _ => by omega⟩
        · simp only
          have a : min s.1 x.grade * C ≤ s.1 * C := Int.mul_le_mul_of_nonneg_right (by omega) h5
          have b : min s.1 x.grade * x.credits ≤ x.grade * x.credits := Int.mul_le_mul_of_nonneg_right (by omega) g3
          rw [Int.mul_add]; omega
        · simp only
          have a : s.2.1 * C ≤ max s.2.1 x.grade * C := Int.mul_le_mul_of_nonneg_right (by omega) h5
          have b : x.grade * x.credits ≤ max s.2.1 x.grade * x.credits := Int.mul_le_mul_of_nonneg_right (by omega) g3
          rw [Int.mul_add]; omega
      · rename_i hc
        have hz : x.credits = 0 := by omega
        rw [hz]
        simp only [Int.mul_zero, Int.add_zero]
        exact ⟨h1, h2, h3, h4, h5, h6, h7, h8, h9⟩)
    simp only [List.foldl_cons, sC, sP]
    rw [show C + (x.credits + sC l) = C + x.credits + sC l from by omega, show P + (x.grade * x.credits + sP l) = P + x.grade * x.credits + sP l from by omega]
    exact key
theorem foldB_all {l : List At} (h : (l.any fun a => !a.good) = false) : 0 ≤ (foldB l).1 ∧ (foldB l).1 ≤ 12 ∧ 0 ≤ (foldB l).2.1 ∧ (foldB l).2.1 ≤ 12 ∧ (foldB l).1 * sC l ≤ sP l ∧ sP l ≤ (foldB l).2.1 * sC l ∧ ((foldB l).2.2 = false → sC l = 0) ∧ ((foldB l).2.2 = true → 0 < sC l) := by
  have := foldB_at l (12, 0, false) 0 0 (all_good h) ⟨by decide, by decide, by decide, by decide, by decide, by decide, by decide, fun _ => rfl, by simp⟩
  simp only [Int.zero_add] at this
  exact ⟨this.1, this.2.1, this.2.2.1, this.2.2.2.1, this.2.2.2.2.2⟩

theorem okR_whole {n : Int} (h0 : 0 ≤ n) (h1 : n ≤ 12) : okR ⟨n, 1⟩ := ⟨by simp only; omega, by simp only; omega, by simp only; omega, by simp only; omega, by simp⟩
theorem cmp_le {a b : Ra} (ha : okR a) (hb : okR b) (h : a.num * b.den ≤ b.num * a.den) : ∃ c, cmpP a b = (c, 0) ∧ c ≤ 0 := by
  refine ⟨_, cmpP_ok ha hb, ?_⟩
  unfold cmpV
  have := cmpI_cases (a.num * b.den) (b.num * a.den)
  omega
theorem low_law {r : Ra} {C P n : Int} (hr : okR r) (h : r.num * C = P * r.den) (hc : 0 < C) (h0 : 0 ≤ n) (h1 : n ≤ 12) (hn : n * C ≤ P) : ∃ c, cmpP ⟨n, 1⟩ r = (c, 0) ∧ c ≤ 0 := by
  refine cmp_le (okR_whole h0 h1) hr ?_
  simp only [Int.mul_one]
  have hd := hr.1
  have a : n * C * r.den ≤ P * r.den := Int.mul_le_mul_of_nonneg_right hn (by omega)
  rw [← h] at a
  have b : (n * r.den) * C ≤ r.num * C := by rw [show n * r.den * C = n * C * r.den from by grind]; exact a
  exact Int.le_of_mul_le_mul_right b hc
theorem high_law {r : Ra} {C P n : Int} (hr : okR r) (h : r.num * C = P * r.den) (hc : 0 < C) (h0 : 0 ≤ n) (h1 : n ≤ 12) (hn : P ≤ n * C) : ∃ c, cmpP r ⟨n, 1⟩ = (c, 0) ∧ c ≤ 0 := by
  refine cmp_le hr (okR_whole h0 h1) ?_
  simp only [Int.mul_one]
  have hd := hr.1
  have a : P * r.den ≤ n * C * r.den := Int.mul_le_mul_of_nonneg_right hn (by omega)
  rw [← h] at a
  have b : r.num * C ≤ (n * r.den) * C := by rw [show n * r.den * C = n * C * r.den from by grind]; exact a
  exact Int.le_of_mul_le_mul_right b hc
theorem up_law {r s : Ra} {C P n c : Int} (hr : okR r) (hs : okR s) (h : r.num * C = P * r.den) (h2 : s.num * (C + c) = (P + n * c) * s.den) (hc : 0 < C) (hc2 : 0 ≤ c) (hn : P ≤ n * C) : ∃ c, cmpP r s = (c, 0) ∧ c ≤ 0 := by
  refine cmp_le hr hs ?_
  have hd := hr.1
  have hd2 := hs.1
  have a : P * c ≤ n * C * c := Int.mul_le_mul_of_nonneg_right hn hc2
  have b : P * (C + c) ≤ (P + n * c) * C := by
    have e1 : P * (C + c) = P * C + P * c := by grind
    have e2 : (P + n * c) * C = P * C + n * C * c := by grind
    omega
  have k : 0 ≤ r.den * s.den := Int.mul_nonneg (by omega) (by omega)
  have d : P * (C + c) * (r.den * s.den) ≤ (P + n * c) * C * (r.den * s.den) := Int.mul_le_mul_of_nonneg_right b k
  have e1 : P * (C + c) * (r.den * s.den) = r.num * s.den * (C * (C + c)) := by
    calc P * (C + c) * (r.den * s.den) = (P * r.den) * (C + c) * s.den := by grind
      _ = (r.num * C) * (C + c) * s.den := by rw [h]
      _ = r.num * s.den * (C * (C + c)) := by grind
  have e2 : (P + n * c) * C * (r.den * s.den) = s.num * r.den * (C * (C + c)) := by
    calc (P + n * c) * C * (r.den * s.den) = ((P + n * c) * s.den) * C * r.den := by grind
      _ = (s.num * (C + c)) * C * r.den := by rw [h2]
      _ = s.num * r.den * (C * (C + c)) := by grind
  rw [e1, e2] at d
  exact Int.le_of_mul_le_mul_right d (Int.mul_pos hc (by omega))

/-- the average with a further attempt, against the goal -/
def reachB (xs : List At) (cr g : Int) (goal : Ra) : Bool := (meanA (xs ++ [⟨0, 0, g, 0, cr⟩])).2 == 0 && ((cmpP (meanA (xs ++ [⟨0, 0, g, 0, cr⟩])).1 goal).2 == 0 && decide (0 ≤ (cmpP (meanA (xs ++ [⟨0, 0, g, 0, cr⟩])).1 goal).1))
theorem reach_enough {xs : List At} {cr : Int} {goal : Ra} {g : Nat} (h : (xs.any fun a => !a.good) = false) (hl : xs.length ≤ 500) (h1 : 1 ≤ cr) (h2 : cr ≤ 60) (hg : g ≤ 12) (ho : okR goal) : reachB xs cr g goal = enough (sC xs) (sP xs) cr goal g := by
  obtain ⟨b1, b2, b3, b4⟩ := sums_at xs (all_good h)
  have hbad : ((xs ++ [(⟨0, 0, (g : Int), 0, cr⟩ : At)]).any fun a => !a.good) = false := by
    rw [List.any_append, h]
    simp [At.good, inB]
    omega
  have e1 : sC (xs ++ [(⟨0, 0, (g : Int), 0, cr⟩ : At)]) = sC xs + cr := by rw [sC_app]; simp [sC]
  have e2 : sP (xs ++ [⟨0, 0, (g : Int), 0, cr⟩]) = sP xs + (g : Int) * cr := by rw [sP_app]; simp [sP]
  obtain ⟨r, hr, hor, he⟩ := mean_good hbad (by simp; omega) (by rw [e1]; omega)
  rw [e1, e2] at he
  unfold reachB enough
  rw [hr]
  simp only
  rw [cmpP_ok hor ho]
  simp only [beq_self_eq_true, Bool.true_and]
  unfold cmpV
  have hs := cmpI_sign (x := r.num * goal.den) (y := goal.num * r.den) (p := (sP xs + (g : Int) * cr) * goal.den) (q := goal.num * (sC xs + cr)) (K := sC xs + cr) (M := r.den) (by omega) (by have := hor.1; omega) (by grind)
  rw [hs]
  have := cmpI_cases ((sP xs + (g : Int) * cr) * goal.den) (goal.num * (sC xs + cr))
  rw [decide_eq_decide]
  omega
theorem reach_bad {xs : List At} {cr g : Int} {goal : Ra} : True := trivial
/-- what AverageReached asks -/
theorem needed_law {xs : List At} {cr : Int} {goal : Ra} (hl : xs.length ≤ 500) (h1 : 1 ≤ cr) (h2 : cr ≤ 60) :
    (∃ E, neededA xs cr goal = (0, false, E) ∧ (E == 0) = false) ∨ (neededA xs cr goal = (0, false, 0) ∧ reachB xs cr 12 goal = false) ∨
      ∃ g : Nat, neededA xs cr goal = ((g : Int), true, 0) ∧ g ≤ 12 ∧ reachB xs cr g goal = true ∧ (g = 0 ∨ reachB xs cr ((g : Int) - 1) goal = false) := by
  cases hb : (xs.any fun a => !a.good)
  · have hi : inB cr 1 10000 = true := by simp [inB]; omega
    by_cases ho : okR goal
    · right
      by_cases hex : ∃ g, g < 13 ∧ enough (sC xs) (sP xs) cr goal g = true
      · right
        have hmin : ∀ n g, g < n → enough (sC xs) (sP xs) cr goal g = true → ∃ k, k ≤ g ∧ enough (sC xs) (sP xs) cr goal k = true ∧ ∀ j, j < k → enough (sC xs) (sP xs) cr goal j = false := by
          intro n
          induction n with
          | zero => intro g hg; omega
          | succ n ih =>
            intro g hg he
            by_cases hx : ∃ j, j < g ∧ enough (sC xs) (sP xs) cr goal j = true
            · obtain ⟨j, hj, hje⟩ := hx
              obtain ⟨k, hk, h1, h2⟩ := ih j (by omega) hje
              exact ⟨k, by omega, h1, h2⟩
            · exact ⟨g, Nat.le_refl _, he, fun j hj => by
                cases hv : enough (sC xs) (sP xs) cr goal j
                · rfl
                · exact absurd ⟨j, hj, hv⟩ hx⟩
        obtain ⟨g0, hg0, he0⟩ := hex
        obtain ⟨g, hg, he, hn⟩ := hmin 13 g0 hg0 he0
        refine ⟨g, neededA_some hb hi ho (by omega) hn he, by omega, by rw [reach_enough hb hl h1 h2 (by omega) ho]; exact he, ?_⟩
        by_cases hz : g = 0
        · exact .inl hz
        · right
          rw [show (g : Int) - 1 = ((g - 1 : Nat) : Int) from by omega, reach_enough hb hl h1 h2 (by omega) ho]
          exact hn _ (by omega)
      · left
        have hn : ∀ j, j < 13 → enough (sC xs) (sP xs) cr goal j = false := fun j hj => by
          cases hv : enough (sC xs) (sP xs) cr goal j
          · rfl
          · exact absurd ⟨j, hj, hv⟩ hex
        refine ⟨neededA_none hb hi ho hn, ?_⟩
        have := reach_enough (g := 12) hb hl h1 h2 (by omega) ho
        rw [hn 12 (by omega)] at this
        exact this
    · exact .inl ⟨50, neededA_rat hb hi ho, by decide⟩
  · exact .inl ⟨150, neededA_bad hb, by decide⟩
end Go.Proofs.Ytimaealmmjdjkaa
