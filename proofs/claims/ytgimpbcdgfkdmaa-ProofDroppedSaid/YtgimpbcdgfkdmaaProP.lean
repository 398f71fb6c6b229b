/- Plain laws of chapter 20: assignments against cuts. -/
import Derived.Test.YtgimpbcdgfkdmaaLib
namespace Go.Proofs.Ytgimpbcdgfkdmaa
set_option linter.unusedSimpArgs false
set_option linter.unusedVariables false

/-- a sum over the first n numbers -/
def sumN : Nat → (Nat → Int) → Int
  | 0, _ => 0
  | n + 1, f => sumN n f + f n
theorem sumN_succ (n : Nat) (f : Nat → Int) : sumN (n + 1) f = sumN n f + f n := rfl
theorem sumN_le {n : Nat} {f g : Nat → Int} (h : ∀ i, i < n → f i ≤ g i) : sumN n f ≤ sumN n g := by
  induction n with
  | zero => exact Int.le_refl _
  | succ n ih =>
    have h1 := ih (fun i hi => h i (by omega))
    have h2 := h n (by omega)
    simp only [sumN]; omega
theorem sumN_congr {n : Nat} {f g : Nat → Int} (h : ∀ i, i < n → f i = g i) : sumN n f = sumN n g := by
  induction n with
  | zero => rfl
  | succ n ih => simp only [sumN, ih (fun i hi => h i (by omega)), h n (by omega)]
theorem sumN_zero (n : Nat) : sumN n (fun _ => 0) = 0 := by
  induction n with
  | zero => rfl
  | succ n ih => simp only [sumN, ih]; rfl
theorem sumN_nonneg {n : Nat} {f : Nat → Int} (h : ∀ i, i < n → 0 ≤ f i) : 0 ≤ sumN n f := by
  have := sumN_le (f := fun _ => 0) (g := f) h
  rwa [sumN_zero] at this
theorem sumN_add (n : Nat) (f g : Nat → Int) : sumN n (fun i => f i + g i) = sumN n f + sumN n g := by
  induction n with
  | zero => rfl
  | succ n ih => simp only [sumN, ih]; omega
theorem sumN_sub (n : Nat) (f g : Nat → Int) : sumN n (fun i => f i - g i) = sumN n f - sumN n g := by
  induction n with
  | zero => rfl
  | succ n ih => simp only [sumN, ih]; omega
theorem sumN_swap (m n : Nat) (f : Nat → Nat → Int) : sumN m (fun i => sumN n (f i)) = sumN n (fun k => sumN m (fun i => f i k)) := by
  induction m with
  | zero => simp only [sumN]; exact (sumN_zero n).symm
  | succ m ih => simp only [sumN]; rw [sumN_add, ih]
theorem sumN_one {n k : Nat} (hk : k < n) (c : Int) : sumN n (fun i => if i = k then c else 0) = c := by
  induction n with
  | zero => omega
  | succ n ih =>
    simp only [sumN]
    by_cases e : n = k
    · subst e
      rw [if_pos rfl, sumN_congr (g := fun _ => 0) (fun i hi => if_neg (by omega)), sumN_zero]; omega
    · rw [if_neg e, ih (by omega)]; omega
theorem sumN_bound {n : Nat} {f : Nat → Int} {c : Int} (h : ∀ i, i < n → f i ≤ c) : sumN n f ≤ n * c := by
  induction n with
  | zero => simp [sumN]
  | succ n ih =>
    have h1 := ih (fun i hi => h i (by omega))
    have h2 := h n (by omega)
    simp only [sumN]
    have : ((n + 1 : Nat) : Int) * c = n * c + c := by rw [Int.natCast_add, Int.add_mul]; simp
    omega
/-- one term of a sum of what is not negative -/
theorem sumN_ge {n k : Nat} {f : Nat → Int} (hk : k < n) (h : ∀ i, i < n → 0 ≤ f i) : f k ≤ sumN n f := by
  have := sumN_le (n := n) (f := fun i => if i = k then f k else 0) (g := f) (fun i hi => by
    split
    · rename_i e; subst e; exact Int.le_refl _
    · exact h i hi)
  rwa [sumN_one hk] at this

/-- assignments against cuts -/
theorem weak_cut (m r : Nat) (P : Nat → Nat → Int) (a b : Nat → Int) (e : Nat → Nat → Int) (S T : Nat → Bool) (h0 : ∀ i k, 0 ≤ P i k) (ha : ∀ i, i < m → sumN r (P i) ≤ a i)
    (hb : ∀ k, k < r → sumN m (fun i => P i k) ≤ b k) (he : ∀ i k, i < m → k < r → P i k ≤ e i k) :
    sumN m (fun i => sumN r (P i)) ≤ sumN m (fun i => if S i then sumN r (fun k => if T k then 0 else e i k) else a i) + sumN r (fun k => if T k then b k else 0) := by
  have hsw : sumN m (fun i => sumN r (fun k => if T k then P i k else 0)) ≤ sumN r (fun k => if T k then b k else 0) := by
    rw [sumN_swap m r (fun i k => if T k then P i k else 0)]
    refine sumN_le (fun k hk => ?_)
    cases hT : T k
    · simp [sumN_zero]
    · simpa using hb k hk
  have hrow : sumN m (fun i => sumN r (P i)) ≤ sumN m (fun i => (if S i then sumN r (fun k => if T k then 0 else e i k) else a i) + sumN r (fun k => if T k then P i k else 0)) := by
    refine sumN_le (fun i hi => ?_)
    cases hS : S i
    · have h1 := ha i hi
      have h2 : 0 ≤ sumN r (fun k => if T k then P i k else 0) := sumN_nonneg (fun k hk => by split; exact h0 i k; exact Int.le_refl _)
      simp only [Bool.false_eq_true, if_false]; omega
    · simp only [if_true]
      rw [← sumN_add]
      refine sumN_le (fun k hk => ?_)
      have := he i k hi hk
      cases hT : T k
      · simp only [Bool.false_eq_true, if_false]; omega
      · simp only [if_true]; omega
  rw [sumN_add] at hrow
  omega
end Go.Proofs.Ytgimpbcdgfkdmaa
