/- Plain laws of fractions: what New makes of two numbers; their order. No program in sight. -/
import Derived.Test.YtimaealmmjdjkaaAvRat
namespace Go.Proofs.Ytimaealmmjdjkaa
set_option linter.unusedSimpArgs false
set_option linter.unusedVariables false

theorem newP_form {n d : Int} (hd : d ≠ 0) : ∃ (N D : Nat) (s : Int), Nat.Coprime N D ∧ 0 < D ∧ s.natAbs = N ∧ s * d = n * (D : Int) ∧ n.natAbs * D = N * d.natAbs ∧
    newP n d = if 1073741824 < N ∨ 1073741824 < D then (⟨0, 0⟩, 2) else (⟨s, (D : Int)⟩, 0) := by
  obtain ⟨G, hG⟩ : ∃ G, G = Nat.gcd n.natAbs d.natAbs := ⟨_, rfl⟩
  have hG0 : 0 < G := by rw [hG]; exact Nat.gcd_pos_of_pos_right _ (by omega)
  obtain ⟨N, hN⟩ : ∃ N, N = n.natAbs / G := ⟨_, rfl⟩
  obtain ⟨D, hD⟩ : ∃ D, D = d.natAbs / G := ⟨_, rfl⟩
  have eN : N * G = n.natAbs := by rw [hN, hG]; exact Nat.div_mul_cancel (Nat.gcd_dvd_left _ _)
  have eD : D * G = d.natAbs := by rw [hD, hG]; exact Nat.div_mul_cancel (Nat.gcd_dvd_right _ _)
  have hc : Nat.Coprime N D := by rw [hN, hD, hG]; exact Nat.coprime_div_gcd_div_gcd (by rw [← hG]; exact hG0)
  have hD0 : 0 < D := by
    rcases Nat.eq_zero_or_pos D with h | h
    · rw [h] at eD; simp at eD; omega
    · exact h
  have hp := newP_parts hd hG hN hD
  refine ⟨N, D, if decide (n < 0) = decide (d < 0) then (N : Int) else -(N : Int), hc, hD0, ?_, ?_, ?_, hp⟩
  · split <;> omega
  · have iN : (N : Int) * (G : Int) = (n.natAbs : Int) := by exact_mod_cast congrArg (Nat.cast (R := Int)) eN
    have iD : (D : Int) * (G : Int) = (d.natAbs : Int) := by exact_mod_cast congrArg (Nat.cast (R := Int)) eD
    by_cases h1 : n < 0 <;> by_cases h2 : d < 0
    · have e1 : n = -((N : Int) * G) := by rw [iN]; omega
      have e2 : d = -((D : Int) * G) := by rw [iD]; omega
      simp only [h1, h2, if_true]
      rw [e1, e2]; grind
    · have e1 : n = -((N : Int) * G) := by rw [iN]; omega
      have e2 : d = ((D : Int) * G) := by rw [iD]; omega
      simp only [h1, h2, decide_true, decide_false, reduceCtorEq, if_false]
      rw [e1, e2]; grind
    · have e1 : n = ((N : Int) * G) := by rw [iN]; omega
      have e2 : d = -((D : Int) * G) := by rw [iD]; omega
      simp only [h1, h2, decide_true, decide_false, reduceCtorEq, if_false]
      rw [e1, e2]; grind
    · have e1 : n = ((N : Int) * G) := by rw [iN]; omega
      have e2 : d = ((D : Int) * G) := by rw [iD]; omega
      simp only [h1, h2, if_true]
      rw [e1, e2]; grind
  · rw [← eN, ← eD]; grind

theorem cop_unique {N D N' D' : Nat} (h : Nat.Coprime N D) (h' : Nat.Coprime N' D') (hD : 0 < D) (hD' : 0 < D') (e : N * D' = N' * D) : N = N' ∧ D = D' := by
  have d1 : D ∣ D' := Nat.Coprime.dvd_of_dvd_mul_left (Nat.Coprime.symm h) (by rw [e]; exact Nat.dvd_mul_left _ _)
  have d2 : D' ∣ D := Nat.Coprime.dvd_of_dvd_mul_left (Nat.Coprime.symm h') (by rw [← e]; exact Nat.dvd_mul_left _ _)
  have hd := Nat.dvd_antisymm d1 d2
  subst hd
  exact ⟨Nat.eq_of_mul_eq_mul_right hD e, rfl⟩

theorem okR_unique {x y : Ra} (hx : okR x) (hy : okR y) (e : x.num * y.den = y.num * x.den) : x = y := by
  obtain ⟨n, d⟩ := x
  obtain ⟨m, f⟩ := y
  obtain ⟨x1, _, _, _, x5⟩ := hx
  obtain ⟨y1, _, _, _, y5⟩ := hy
  simp only at x1 x5 y1 y5 e
  have en : n.natAbs * f.natAbs = m.natAbs * d.natAbs := by rw [← Int.natAbs_mul, ← Int.natAbs_mul, e]
  obtain ⟨_, h2⟩ := cop_unique x5 y5 (by omega) (by omega) en
  have hdf : d = f := by omega
  subst hdf
  have : n = m := Int.eq_of_mul_eq_mul_right (by omega) e
  rw [this]

/-- New: what comes of it -/
theorem newP_cases (n d : Int) : (∃ r, newP n d = (r, 0) ∧ okR r ∧ d ≠ 0 ∧ r.num * d = n * r.den) ∨ (newP n d = (⟨0, 0⟩, 1) ∧ d = 0) ∨ (newP n d = (⟨0, 0⟩, 2) ∧ d ≠ 0) := by
  by_cases hd : d = 0
  · subst hd; exact .inr (.inl ⟨newP_zero n, rfl⟩)
  · obtain ⟨N, D, s, hc, hD, hs, he, _, hp⟩ := newP_form (n := n) hd
    by_cases hl : 1073741824 < N ∨ 1073741824 < D
    · exact .inr (.inr ⟨by rw [hp, if_pos hl], hd⟩)
    · refine .inl ⟨⟨s, D⟩, by rw [hp, if_neg hl], ⟨?_, ?_, ?_, ?_, ?_⟩, hd, he⟩
      · simp only; omega
      · simp only; omega
      · simp only; omega
      · simp only; omega
      · simp only [Int.natAbs_natCast, hs]; exact hc

/-- New sees the value alone -/
theorem newP_same {n d n' d' : Int} (hd : d ≠ 0) (hd' : d' ≠ 0) (e : n * d' = n' * d) : newP n d = newP n' d' := by
  obtain ⟨N, D, s, hc, hD, hs, he, hab, hp⟩ := newP_form (n := n) hd
  obtain ⟨N', D', s', hc', hD', hs', he', hab', hp'⟩ := newP_form (n := n') hd'
  have ea : n.natAbs * d'.natAbs = n'.natAbs * d.natAbs := by rw [← Int.natAbs_mul, ← Int.natAbs_mul, e]
  have k0 : 0 < d.natAbs := by omega
  have k1 : 0 < d'.natAbs := by omega
  have ee : N * D' = N' * D := by
    have h : (N * D') * (d.natAbs * d'.natAbs) = (N' * D) * (d.natAbs * d'.natAbs) := by
      calc (N * D') * (d.natAbs * d'.natAbs) = (N * d.natAbs) * (D' * d'.natAbs) := by grind
        _ = (n.natAbs * D) * (D' * d'.natAbs) := by rw [hab]
        _ = (n.natAbs * d'.natAbs) * (D * D') := by grind
        _ = (n'.natAbs * d.natAbs) * (D * D') := by rw [ea]
        _ = (n'.natAbs * D') * (D * d.natAbs) := by grind
        _ = (N' * d'.natAbs) * (D * d.natAbs) := by rw [hab']
        _ = (N' * D) * (d.natAbs * d'.natAbs) := by grind
    exact Nat.eq_of_mul_eq_mul_right (Nat.mul_pos k0 k1) h
  obtain ⟨rfl, rfl⟩ := cop_unique hc hc' hD hD' ee
  have hss : s = s' := by
    have h : (s - s') * (d * d') = 0 := by grind
    rcases Int.mul_eq_zero.1 h with h | h
    · omega
    · rcases Int.mul_eq_zero.1 h with h | h
      · exact absurd h hd
      · exact absurd h hd'
  subst hss
  rw [hp, hp']

theorem newP_self {r : Ra} (h : okR r) : newP r.num r.den = (r, 0) := by
  obtain ⟨h1, h2, h3, h4, h5⟩ := h
  have hd : r.den ≠ 0 := by omega
  obtain ⟨n, d⟩ := r
  simp only at h1 h2 h3 h4 h5 hd ⊢
  unfold newP
  rw [if_neg hd, h5, Nat.div_one, Nat.div_one, if_neg (by omega)]
  have e1 : decide (d < 0) = false := by simp; omega
  have e2 : (d.natAbs : Int) = d := by omega
  rw [e1, e2]
  by_cases hn : n < 0
  · have : decide (n < 0) = true := by simpa using hn
    rw [this, if_neg (by simp)]
    have : -(n.natAbs : Int) = n := by omega
    rw [this]
  · have : decide (n < 0) = false := by simpa using hn
    rw [this, if_pos rfl]
    have : (n.natAbs : Int) = n := by omega
    rw [this]
/-- a fraction is valid exactly if New's error is none -/
theorem newP_i64 (n d : Int) : (newP n d).1.i64 := by
  rcases newP_cases n d with ⟨r, h, hr, _⟩ | ⟨h, _⟩ | ⟨h, _⟩
  · rw [h]; obtain ⟨a, b, c, e, _⟩ := hr; show I64 r.num ∧ I64 r.den; exact ⟨by unfold I64; omega, by unfold I64; omega⟩
  · rw [h]; exact ⟨by unfold I64; decide, by unfold I64; decide⟩
  · rw [h]; exact ⟨by unfold I64; decide, by unfold I64; decide⟩
theorem cancel {a b k : Int} (hk : k ≠ 0) (h : (a - b) * k = 0) : a = b := by
  rcases Int.mul_eq_zero.1 h with h | h
  · omega
  · exact absurd h hk
theorem cmpI_cases (x y : Int) : (cmpI x y = -1 ∧ x < y) ∨ (cmpI x y = 0 ∧ x = y) ∨ (cmpI x y = 1 ∧ y < x) := by
  unfold cmpI; (repeat' split) <;> omega
theorem cmpI_turn (x y : Int) : cmpI y x = -cmpI x y := by
  have := cmpI_cases x y
  have := cmpI_cases y x
  omega
theorem cmpI_sign {x y p q K M : Int} (hK : 0 < K) (hM : 0 < M) (h : (x - y) * K = (p - q) * M) : cmpI x y = cmpI p q := by
  have h1 : x < y → p < q := fun h2 => by
    have a : (x - y) * K < 0 := Int.mul_neg_of_neg_of_pos (by omega) hK
    rw [h] at a
    rcases Int.lt_trichotomy (p - q) 0 with h3 | h3 | h3
    · omega
    · rw [h3] at a; simp at a
    · have := Int.mul_pos h3 hM; omega
  have h2 : y < x → q < p := fun h2 => by
    have a : 0 < (x - y) * K := Int.mul_pos (by omega) hK
    rw [h] at a
    rcases Int.lt_trichotomy (p - q) 0 with h3 | h3 | h3
    · have := Int.mul_neg_of_neg_of_pos h3 hM; omega
    · rw [h3] at a; simp at a
    · omega
  have h3 : x = y → p = q := fun h3 => by
    rw [h3] at h
    have : (p - q) * M = 0 := by rw [← h]; grind
    rcases Int.mul_eq_zero.1 this with h | h <;> omega
  have := cmpI_cases x y
  have := cmpI_cases p q
  omega
def cmpV (a b : Ra) : Int := cmpI (a.num * b.den) (b.num * a.den)
theorem cmpP_ok {a b : Ra} (ha : okR a) (hb : okR b) : cmpP a b = (cmpV a b, 0) := by unfold cmpP cmpV; rw [if_pos ⟨ha, hb⟩]
theorem newP_fit {n d : Int} (h1 : 1 ≤ d) (h2 : d ≤ 1073741824) (h3 : -1073741824 ≤ n) (h4 : n ≤ 1073741824) : ∃ r, newP n d = (r, 0) ∧ okR r ∧ r.num * d = n * r.den := by
  rcases newP_cases n d with ⟨r, a, b, _, c⟩ | ⟨_, h⟩ | ⟨h, _⟩
  · exact ⟨r, a, b, c⟩
  · omega
  · exfalso
    have hp := newP_parts (num := n) (den := d) (by omega) rfl rfl rfl
    rw [if_neg] at hp
    · rw [h] at hp; simp at hp
    · have a := Nat.div_le_self n.natAbs (Nat.gcd n.natAbs d.natAbs)
      have b := Nat.div_le_self d.natAbs (Nat.gcd n.natAbs d.natAbs)
      omega
end Go.Proofs.Ytimaealmmjdjkaa
