/- Plain laws of means: the least and the greatest value with a weight; weights multiplied; two lists together. No program in sight. -/
import Derived.Test.YtaogcmgbmomilaaRatQ
import Derived.Test.YtaogcmgbmomilaaRatI
namespace Go.Proofs.Ytaogcmgbmomilaa
set_option linter.unusedSimpArgs false
set_option linter.unusedVariables false

theorem newP_fit {n d : Int} (h1 : 1 ≤ d) (h2 : d ≤ 1073741824) (h3 : -1073741824 ≤ n) (h4 : n ≤ 1073741824) : ∃ r, newP n d = (r, 0) ∧ okR r ∧ r.num * d = n * r.den := by
  rcases newP_cases n d with ⟨r, a, b, _, c⟩ | ⟨_, h⟩ | ⟨h, _⟩
  · exact ⟨r, a, b, c⟩
  · omega
  · exfalso
    have hp := newP_parts (num := n) (den := d) (by omega) rfl rfl rfl
    rw [if_neg] at hp
    · rw [h] at hp; simp at hp
    · have a := Nat.div_le_self n.natAbs (Nat.gcd n.natAbs d.natAbs)
      have b := Nat.div_le_self d.natAbs (Nat.gcd n.natAbs d.natAbs)
      omega

def stepM (s : Int × Int × Bool) (x : Int × Int) : Int × Int × Bool :=
  if 0 < x.2 then ((if s.2.2 = false ∨ x.1 < s.1 then x.1 else s.1), (if s.2.2 = false ∨ s.2.1 < x.1 then x.1 else s.2.1), true) else s
def foldM (l : List (Int × Int)) : Int × Int × Bool := l.foldl stepM (0, 0, false)
theorem foldM_snoc (l : List (Int × Int)) (x : Int × Int) : foldM (l ++ [x]) = stepM (foldM l) x := by simp [foldM, List.foldl_append]

def MinMax (s : Int × Int × Bool) (S W : Int) : Prop :=
  -128 ≤ s.1 ∧ s.1 ≤ 127 ∧ -128 ≤ s.2.1 ∧ s.2.1 ≤ 127 ∧ (s.2.2 = false → W = 0 ∧ S = 0) ∧ (s.2.2 = true → 0 < W ∧ s.1 * W ≤ S ∧ S ≤ s.2.1 * W)
theorem minmax_step {s : Int × Int × Bool} {S W : Int} {x : Int × Int} (h : MinMax s S W) (h1 : -128 ≤ x.1) (h2 : x.1 ≤ 127) (h3 : 0 ≤ x.2) : MinMax (stepM s x) (S + x.1 * x.2) (W + x.2) := by
  obtain ⟨lo, hi, sm⟩ := s
  obtain ⟨v, n⟩ := x
  obtain ⟨a1, a2, a3, a4, a5, a6⟩ := h
  simp only at a1 a2 a3 a4 a5 a6 h1 h2 h3
  unfold stepM
  by_cases hn : 0 < n
  · rw [if_pos hn]
    cases sm with
    | false =>
      obtain ⟨rfl, rfl⟩ := a5 rfl
      simp only [true_or, if_true]
      refine ⟨h1, h2, h1, h2, fun h => (by cases h), fun _ => ⟨by omega, ?_, ?_⟩⟩ <;> (simp only; grind)
    | true =>
      obtain ⟨b1, b2, b3⟩ := a6 rfl
      simp only [Bool.true_eq_false, false_or]
      refine ⟨by simp only; split <;> omega, by simp only; split <;> omega, by simp only; split <;> omega, by simp only; split <;> omega, fun h => (by cases h), fun _ => ⟨by omega, ?_, ?_⟩⟩
      · simp only
        split
        · rename_i hv
          have := Int.mul_le_mul_of_nonneg_right (show v ≤ lo by omega) (show 0 ≤ W by omega)
          grind
        · rename_i hv
          have := Int.mul_le_mul_of_nonneg_right (show lo ≤ v by omega) h3
          grind
      · simp only
        split
        · rename_i hv
          have := Int.mul_le_mul_of_nonneg_right (show hi ≤ v by omega) (show 0 ≤ W by omega)
          grind
        · rename_i hv
          have := Int.mul_le_mul_of_nonneg_right (show v ≤ hi by omega) h3
          grind
  · rw [if_neg hn]
    have : n = 0 := by omega
    subst this
    simp only [Int.mul_zero, Int.add_zero]
    exact ⟨a1, a2, a3, a4, a5, a6⟩
theorem minmax_fold : ∀ (l : List (Int × Int)) (s : Int × Int × Bool) (S W : Int), MinMax s S W → (∀ x ∈ l, -128 ≤ x.1 ∧ x.1 ≤ 127 ∧ 0 ≤ x.2) → MinMax (l.foldl stepM s) (S + sVW l) (W + sW l)
  | [], s, S, W, h, _ => by simpa [sVW, sW] using h
  | x :: l, s, S, W, h, hx => by
    obtain ⟨h1, h2, h3⟩ := hx x (List.mem_cons_self ..)
    have := minmax_fold l _ _ _ (minmax_step h h1 h2 h3) (fun y hy => hx y (List.mem_cons_of_mem _ hy))
    simp only [List.foldl_cons, sVW, sW]
    rw [show S + (x.1 * x.2 + sVW l) = S + x.1 * x.2 + sVW l from by omega, show W + (x.2 + sW l) = W + x.2 + sW l from by omega]
    exact this
theorem minmax_all (l : List (Int × Int)) (hx : ∀ x ∈ l, -128 ≤ x.1 ∧ x.1 ≤ 127 ∧ 0 ≤ x.2) : MinMax (foldM l) (sVW l) (sW l) := by
  have := minmax_fold l (0, 0, false) 0 0 ⟨by decide, by decide, by decide, by decide, fun _ => ⟨rfl, rfl⟩, fun h => by cases h⟩ hx
  simpa [foldM] using this

theorem sums_scale (f : Int) : ∀ l : List (Int × Int), sVW (l.map (fun x => (x.1, x.2 * f))) = sVW l * f ∧ sW (l.map (fun x => (x.1, x.2 * f))) = sW l * f
  | [] => by simp [sVW, sW]
  | x :: l => by
    obtain ⟨h1, h2⟩ := sums_scale f l
    simp only [List.map_cons, sVW, sW, h1, h2]
    constructor <;> grind
theorem zip_scale (f : Int) (us ws : List Int) : us.zip (ws.map (· * f)) = (us.zip ws).map (fun x => (x.1, x.2 * f)) := by
  rw [List.zip_map_right]
  rfl
theorem abs_mulN {x y : Int} {A B : Nat} (h1 : x.natAbs ≤ A) (h2 : y.natAbs ≤ B) : (x * y).natAbs ≤ A * B := by
  rw [Int.natAbs_mul]; exact Nat.mul_le_mul h1 h2
/-- values and weights as bytes -/
def Small (us ws : List Int) : Prop := (∀ x ∈ us, -128 ≤ x ∧ x ≤ 127) ∧ (∀ x ∈ ws, 0 ≤ x ∧ x ≤ 255) ∧ us.length = ws.length ∧ us.length ≤ 200
theorem Small.pair {us ws : List Int} (h : Small us ws) : ∀ x ∈ us.zip ws, -128 ≤ x.1 ∧ x.1 ≤ 127 ∧ 0 ≤ x.2 ∧ x.2 ≤ 255 := fun x hx => by
  have h1 := List.of_mem_zip (a := x.1) (b := x.2) hx
  obtain ⟨a, b⟩ := h.1 _ h1.1
  obtain ⟨c, d⟩ := h.2.1 _ h1.2
  exact ⟨a, b, c, d⟩
theorem Small.sums {us ws : List Int} : ∀ l : List (Int × Int), (∀ x ∈ l, -128 ≤ x.1 ∧ x.1 ≤ 127 ∧ 0 ≤ x.2 ∧ x.2 ≤ 255) → -(32640 * (l.length : Int)) ≤ sVW l ∧ sVW l ≤ 32640 * (l.length : Int) ∧ 0 ≤ sW l ∧ sW l ≤ 255 * (l.length : Int)
  | [], _ => by simp [sVW, sW]
  | x :: l, h => by
    obtain ⟨h1, h2, h3, h4⟩ := Small.sums (us := us) (ws := ws) l (fun y hy => h y (List.mem_cons_of_mem _ hy))
    obtain ⟨g1, g2, g3, g4⟩ := h x (List.mem_cons_self ..)
    have hb := abs_mulN (x := x.1) (y := x.2) (A := 128) (B := 255) (by omega) (by omega)
    simp only [sVW, sW, List.length_cons]
    omega
theorem Small.zlen {us ws : List Int} (h : Small us ws) : (us.zip ws).length ≤ 200 := by
  have := h.2.2.1; have := h.2.2.2; simp; omega
theorem Small.good {us ws : List Int} (h : Small us ws) : (us.zip ws).any badP = false := by
  rw [List.any_eq_false]
  intro x hx
  have := h.pair x hx
  simp [badP]; omega
/-- the mean of bytes with bytes as weights -/
theorem mean_small {us ws : List Int} (h : Small us ws) : ∃ r, meanP us ws = (r, 0) ∧ okR r ∧ r.num * (max (sW (us.zip ws)) 1) = sVW (us.zip ws) * r.den ∧ (sW (us.zip ws) = 0 → r = ⟨0, 1⟩) := by
  obtain ⟨h1, h2, h3, h4⟩ := Small.sums (us := us) (ws := ws) _ h.pair
  have hz := h.zlen
  have hv : meanP us ws = newP (sVW (us.zip ws)) (max (sW (us.zip ws)) 1) := by
    unfold meanP
    rw [if_pos h.2.2.1, h.good]; rfl
  obtain ⟨r, a, b, c⟩ := newP_fit (n := sVW (us.zip ws)) (d := max (sW (us.zip ws)) 1) (by omega) (by omega) (by omega) (by omega)
  refine ⟨r, hv.trans a, b, c, fun h0 => ?_⟩
  have hs := all_zero (us.zip ws) (fun x hx => by have := h.pair x hx; simp [badP]; omega) h0
  rw [hs, h0, show max (0 : Int) 1 = 1 from rfl, newP_one] at a
  cases a
  rfl
theorem mean_scale {us ws : List Int} (h : Small us ws) {f : Int} (h1 : 1 ≤ f) (h2 : f ≤ 255) : meanP us (ws.map (· * f)) = meanP us ws := by
  obtain ⟨s1, s2⟩ := sums_scale f (us.zip ws)
  obtain ⟨_, _, b3, b4⟩ := Small.sums (us := us) (ws := ws) _ h.pair
  have hb : (us.zip (ws.map (· * f))).any badP = false := by
    rw [zip_scale, List.any_eq_false]
    intro x hx
    obtain ⟨y, hy, rfl⟩ := List.mem_map.1 hx
    have := h.pair y hy
    have hp := abs_mulN (x := y.2) (y := f) (A := 255) (B := 255) (by omega) (by omega)
    have hn : 0 ≤ y.2 * f := Int.mul_nonneg (by omega) (by omega)
    simp [badP]; omega
  unfold meanP
  rw [if_pos (by simpa using h.2.2.1), if_pos h.2.2.1, hb, h.good, zip_scale, s1, s2]
  simp only [Bool.false_eq_true, if_false]
  by_cases h0 : sW (us.zip ws) = 0
  · have hs := all_zero (us.zip ws) (fun x hx => by have := h.pair x hx; simp [badP]; omega) h0
    rw [hs, h0]; simp
  · have hf : 1 ≤ sW (us.zip ws) * f := by
      have := Int.mul_le_mul_of_nonneg_right (show 1 ≤ sW (us.zip ws) by omega) (show 0 ≤ f by omega)
      omega
    rw [show max (sW (us.zip ws) * f) 1 = sW (us.zip ws) * f from by omega, show max (sW (us.zip ws)) 1 = sW (us.zip ws) from by omega]
    exact newP_same (by omega) h0 (by grind)
theorem mean_between {us ws : List Int} (h : Small us ws) {r : Ra} (ok : okR r) (hr : r.num * (max (sW (us.zip ws)) 1) = sVW (us.zip ws) * r.den) (hs : (foldM (us.zip ws)).2.2 = true) :
    okR ⟨(foldM (us.zip ws)).1, 1⟩ ∧ okR ⟨(foldM (us.zip ws)).2.1, 1⟩ ∧ cmpV ⟨(foldM (us.zip ws)).1, 1⟩ r ≤ 0 ∧ cmpV r ⟨(foldM (us.zip ws)).2.1, 1⟩ ≤ 0 := by
  obtain ⟨a1, a2, a3, a4, _, a6⟩ := minmax_all (us.zip ws) (fun x hx => by have := h.pair x hx; omega)
  obtain ⟨w, l, u⟩ := a6 hs
  obtain ⟨lo, hlo⟩ : ∃ x, x = (foldM (us.zip ws)).1 := ⟨_, rfl⟩
  obtain ⟨hi, hhi⟩ : ∃ x, x = (foldM (us.zip ws)).2.1 := ⟨_, rfl⟩
  obtain ⟨W, hW⟩ : ∃ x, x = sW (us.zip ws) := ⟨_, rfl⟩
  obtain ⟨S, hS⟩ : ∃ x, x = sVW (us.zip ws) := ⟨_, rfl⟩
  rw [← hW, ← hS] at hr
  rw [← hlo, ← hW, ← hS] at l
  rw [← hhi, ← hW, ← hS] at u
  rw [← hW] at w
  rw [← hlo] at a1 a2
  rw [← hhi] at a3 a4
  rw [← hlo, ← hhi]
  rw [show max W 1 = W from by omega] at hr
  have kd : 0 < r.den := by have := ok.1; omega
  refine ⟨⟨by simp only; omega, by simp only; omega, by simp only; omega, by simp only; omega, by simp⟩, ⟨by simp only; omega, by simp only; omega, by simp only; omega, by simp only; omega, by simp⟩, ?_, ?_⟩
  · have m1 := Int.mul_le_mul_of_nonneg_right l (show 0 ≤ r.den by omega)
    have m2 : (lo * r.den) * W ≤ r.num * W := by rw [hr]; grind
    have m3 := Int.le_of_mul_le_mul_right m2 w
    have := cmpI_cases (lo * r.den) (r.num * 1)
    unfold cmpV
    simp only
    omega
  · have m1 := Int.mul_le_mul_of_nonneg_right u (show 0 ≤ r.den by omega)
    have m2 : r.num * W ≤ (hi * r.den) * W := by rw [hr]; grind
    have m3 := Int.le_of_mul_le_mul_right m2 w
    have := cmpI_cases (r.num * 1) (hi * r.den)
    unfold cmpV
    simp only
    omega
end Go.Proofs.Ytaogcmgbmomilaa
