/- Plain laws of sums and products of fractions, and of their order. No program in sight. -/
import Derived.Test.YtaogcmgbmomilaaRatP
namespace Go.Proofs.Ytaogcmgbmomilaa
set_option linter.unusedSimpArgs false
set_option linter.unusedVariables false

def IsVal (r : Ra) (n d : Int) : Prop := r.num * d = n * r.den
theorem cancel {a b k : Int} (hk : k ≠ 0) (h : (a - b) * k = 0) : a = b := by
  rcases Int.mul_eq_zero.1 h with h | h
  · omega
  · exact absurd h hk
theorem nz {a b : Int} (ha : a ≠ 0) (hb : b ≠ 0) : a * b ≠ 0 := fun h => (Int.mul_eq_zero.1 h).elim ha hb
theorem okR.den_ne {r : Ra} (h : okR r) : r.den ≠ 0 := by have := h.1; omega
theorem val_self (r : Ra) : IsVal r r.num r.den := rfl
theorem val_add {x y r : Ra} {n1 d1 n2 d2 : Int} (hx : IsVal x n1 d1) (hy : IsVal y n2 d2) (kx : x.den ≠ 0) (ky : y.den ≠ 0) (h : r.num * (x.den * y.den) = (x.num * y.den + y.num * x.den) * r.den) : IsVal r (n1 * d2 + n2 * d1) (d1 * d2) := by
  unfold IsVal at *
  exact cancel (nz kx ky) (by grind)
theorem val_mul {x y r : Ra} {n1 d1 n2 d2 : Int} (hx : IsVal x n1 d1) (hy : IsVal y n2 d2) (kx : x.den ≠ 0) (ky : y.den ≠ 0) (h : r.num * (x.den * y.den) = (x.num * y.num) * r.den) : IsVal r (n1 * n2) (d1 * d2) := by
  unfold IsVal at *
  exact cancel (nz kx ky) (by grind)
theorem val_same {r s : Ra} {n d n' d' : Int} (hr : okR r) (hs : okR s) (h1 : IsVal r n d) (h2 : IsVal s n' d') (hd : d ≠ 0) (hd' : d' ≠ 0) (e : n * d' = n' * d) : r = s := by
  unfold IsVal at *
  exact okR_unique hr hs (cancel (nz hd hd') (by grind))
theorem addV {a b r : Ra} (ha : okR a) (hb : okR b) (h : addP a b = (r, 0)) : okR r ∧ r.num * (a.den * b.den) = (a.num * b.den + b.num * a.den) * r.den := by
  rcases addP_cases ha hb with ⟨q, h1, h2, h3⟩ | h1
  · rw [h1] at h; cases h; exact ⟨h2, h3⟩
  · rw [h1] at h; simp at h
theorem mulV {a b r : Ra} (ha : okR a) (hb : okR b) (h : mulP a b = (r, 0)) : okR r ∧ r.num * (a.den * b.den) = (a.num * b.num) * r.den := by
  rcases mulP_cases ha hb with ⟨q, h1, h2, h3⟩ | h1
  · rw [h1] at h; cases h; exact ⟨h2, h3⟩
  · rw [h1] at h; simp at h
theorem addP_i64 (a b : Ra) : (addP a b).1.i64 := by
  unfold addP
  split
  · exact newP_i64 _ _
  · exact ⟨by unfold I64; decide, by unfold I64; decide⟩
theorem mulP_i64 (a b : Ra) : (mulP a b).1.i64 := by
  unfold mulP
  split
  · exact newP_i64 _ _
  · exact ⟨by unfold I64; decide, by unfold I64; decide⟩

/-- sums of three, either way -/
theorem add_turn {a b c x y x' y' : Ra} (ha : okR a) (hb : okR b) (hc : okR c) (h1 : addP a b = (x, 0)) (h2 : addP x c = (y, 0)) (h3 : addP b c = (x', 0)) (h4 : addP x' a = (y', 0)) : y = y' := by
  obtain ⟨ox, ex⟩ := addV ha hb h1
  obtain ⟨oy, ey⟩ := addV ox hc h2
  obtain ⟨ox', ex'⟩ := addV hb hc h3
  obtain ⟨oy', ey'⟩ := addV ox' ha h4
  have v1 := val_add (val_self a) (val_self b) ha.den_ne hb.den_ne ex
  have v2 := val_add v1 (val_self c) ox.den_ne hc.den_ne ey
  have v3 := val_add (val_self b) (val_self c) hb.den_ne hc.den_ne ex'
  have v4 := val_add v3 (val_self a) ox'.den_ne ha.den_ne ey'
  exact val_same oy oy' v2 v4 (nz (nz ha.den_ne hb.den_ne) hc.den_ne) (nz (nz hb.den_ne hc.den_ne) ha.den_ne) (by grind)
/-- products of three, either way -/
theorem mul_turn {a b c p pc bc abc : Ra} (ha : okR a) (hb : okR b) (hc : okR c) (h1 : mulP a b = (p, 0)) (h2 : mulP p c = (pc, 0)) (h3 : mulP b c = (bc, 0)) (h4 : mulP a bc = (abc, 0)) : pc = abc := by
  obtain ⟨ox, ex⟩ := mulV ha hb h1
  obtain ⟨oy, ey⟩ := mulV ox hc h2
  obtain ⟨ox', ex'⟩ := mulV hb hc h3
  obtain ⟨oy', ey'⟩ := mulV ha ox' h4
  have v1 := val_mul (val_self a) (val_self b) ha.den_ne hb.den_ne ex
  have v2 := val_mul v1 (val_self c) ox.den_ne hc.den_ne ey
  have v3 := val_mul (val_self b) (val_self c) hb.den_ne hc.den_ne ex'
  have v4 := val_mul (val_self a) v3 ha.den_ne ox'.den_ne ey'
  exact val_same oy oy' v2 v4 (nz (nz ha.den_ne hb.den_ne) hc.den_ne) (nz ha.den_ne (nz hb.den_ne hc.den_ne)) (by grind)
/-- the product of a sum -/
theorem mul_over {a b c ab ac bc left right : Ra} (ha : okR a) (hb : okR b) (hc : okR c) (h1 : addP a b = (ab, 0)) (h2 : mulP a c = (ac, 0)) (h3 : mulP b c = (bc, 0)) (h4 : mulP ab c = (left, 0)) (h5 : addP ac bc = (right, 0)) : left = right := by
  obtain ⟨o1, e1⟩ := addV ha hb h1
  obtain ⟨o2, e2⟩ := mulV ha hc h2
  obtain ⟨o3, e3⟩ := mulV hb hc h3
  obtain ⟨o4, e4⟩ := mulV o1 hc h4
  obtain ⟨o5, e5⟩ := addV o2 o3 h5
  have v1 := val_add (val_self a) (val_self b) ha.den_ne hb.den_ne e1
  have v2 := val_mul (val_self a) (val_self c) ha.den_ne hc.den_ne e2
  have v3 := val_mul (val_self b) (val_self c) hb.den_ne hc.den_ne e3
  have v4 := val_mul v1 (val_self c) o1.den_ne hc.den_ne e4
  have v5 := val_add v2 v3 o2.den_ne o3.den_ne e5
  exact val_same o4 o5 v4 v5 (nz (nz ha.den_ne hb.den_ne) hc.den_ne) (nz (nz ha.den_ne hc.den_ne) (nz hb.den_ne hc.den_ne)) (by grind)
theorem okR_one : okR ⟨1, 1⟩ := by decide
theorem okR_nought : okR ⟨0, 1⟩ := by decide
theorem add_nought {a : Ra} (ha : okR a) : addP a ⟨0, 1⟩ = (a, 0) := by
  unfold addP
  rw [if_pos ⟨ha, okR_nought⟩]
  simp only [Int.mul_one, Int.zero_mul, Int.add_zero]
  exact newP_self ha
theorem mul_one {a : Ra} (ha : okR a) : mulP a ⟨1, 1⟩ = (a, 0) := by
  unfold mulP
  rw [if_pos ⟨ha, okR_one⟩]
  simp only [Int.mul_one]
  exact newP_self ha

/-! the order -/
theorem cmpI_cases (x y : Int) : (cmpI x y = -1 ∧ x < y) ∨ (cmpI x y = 0 ∧ x = y) ∨ (cmpI x y = 1 ∧ y < x) := by
  unfold cmpI; (repeat' split) <;> omega
theorem cmpI_turn (x y : Int) : cmpI y x = -cmpI x y := by
  have := cmpI_cases x y
  have := cmpI_cases y x
  omega
theorem cmpI_sign {x y p q K M : Int} (hK : 0 < K) (hM : 0 < M) (h : (x - y) * K = (p - q) * M) : cmpI x y = cmpI p q := by
  have h1 : x < y → p < q := fun h2 => by
    have a : (x - y) * K < 0 := Int.mul_neg_of_neg_of_pos (by omega) hK
    rw [h] at a
    rcases Int.lt_trichotomy (p - q) 0 with h3 | h3 | h3
    · omega
    · rw [h3] at a; simp at a
    · have := Int.mul_pos h3 hM; omega
  have h2 : y < x → q < p := fun h2 => by
    have a : 0 < (x - y) * K := Int.mul_pos (by omega) hK
    rw [h] at a
    rcases Int.lt_trichotomy (p - q) 0 with h3 | h3 | h3
    · have := Int.mul_neg_of_neg_of_pos h3 hM; omega
    · rw [h3] at a; simp at a
    · omega
  have h3 : x = y → p = q := fun h3 => by
    rw [h3] at h
    have : (p - q) * M = 0 := by rw [← h]; grind
    rcases Int.mul_eq_zero.1 this with h | h <;> omega
  have := cmpI_cases x y
  have := cmpI_cases p q
  omega
def cmpV (a b : Ra) : Int := cmpI (a.num * b.den) (b.num * a.den)
theorem cmpP_ok {a b : Ra} (ha : okR a) (hb : okR b) : cmpP a b = (cmpV a b, 0) := by unfold cmpP cmpV; rw [if_pos ⟨ha, hb⟩]
theorem cmpV_turn (a b : Ra) : cmpV b a = -cmpV a b := cmpI_turn _ _
theorem cmpV_zero {a b : Ra} (ha : okR a) (hb : okR b) : cmpV a b = 0 ↔ a = b := by
  constructor
  · intro h
    have := cmpI_cases (a.num * b.den) (b.num * a.den)
    unfold cmpV at h
    exact okR_unique ha hb (by omega)
  · intro h
    subst h
    have := cmpI_cases (a.num * a.den) (a.num * a.den)
    unfold cmpV
    omega
theorem cmpV_range (a b : Ra) : -1 ≤ cmpV a b ∧ cmpV a b ≤ 1 := by
  have := cmpI_cases (a.num * b.den) (b.num * a.den)
  unfold cmpV
  omega
theorem cmpV_trans {a b c : Ra} (ha : okR a) (hb : okR b) (hc : okR c) (h1 : cmpV a b ≤ 0) (h2 : cmpV b c ≤ 0) : cmpV a c ≤ 0 ∧ (cmpV a b < 0 → cmpV a c < 0) := by
  have ka : 0 < a.den := by have := ha.1; omega
  have kb : 0 < b.den := by have := hb.1; omega
  have kc : 0 < c.den := by have := hc.1; omega
  have c1 := cmpI_cases (a.num * b.den) (b.num * a.den)
  have c2 := cmpI_cases (b.num * c.den) (c.num * b.den)
  have c3 := cmpI_cases (a.num * c.den) (c.num * a.den)
  unfold cmpV at *
  have l1 : a.num * b.den ≤ b.num * a.den := by omega
  have l2 : b.num * c.den ≤ c.num * b.den := by omega
  have m1 : a.num * b.den * c.den ≤ b.num * a.den * c.den := Int.mul_le_mul_of_nonneg_right l1 (by omega)
  have m2 : b.num * c.den * a.den ≤ c.num * b.den * a.den := Int.mul_le_mul_of_nonneg_right l2 (by omega)
  have e1 : b.num * a.den * c.den = b.num * c.den * a.den := by grind
  have m3 : (a.num * c.den) * b.den ≤ (c.num * a.den) * b.den := by
    have : a.num * b.den * c.den = (a.num * c.den) * b.den := by grind
    have : c.num * b.den * a.den = (c.num * a.den) * b.den := by grind
    omega
  have l3 : a.num * c.den ≤ c.num * a.den := Int.le_of_mul_le_mul_right m3 kb
  refine ⟨by omega, fun h => ?_⟩
  have l4 : a.num * b.den < b.num * a.den := by omega
  have m4 : a.num * b.den * c.den < b.num * a.den * c.den := Int.mul_lt_mul_of_pos_right l4 kc
  have m5 : (a.num * c.den) * b.den < (c.num * a.den) * b.den := by
    have : a.num * b.den * c.den = (a.num * c.den) * b.den := by grind
    have : c.num * b.den * a.den = (c.num * a.den) * b.den := by grind
    omega
  have l5 : a.num * c.den < c.num * a.den := Int.lt_of_mul_lt_mul_right m5 (by omega)
  omega
theorem cmpV_add {a b c x y : Ra} (ha : okR a) (hb : okR b) (hc : okR c) (h1 : addP a c = (x, 0)) (h2 : addP b c = (y, 0)) : cmpV x y = cmpV a b := by
  obtain ⟨ox, ex⟩ := addV ha hc h1
  obtain ⟨oy, ey⟩ := addV hb hc h2
  have ka : 0 < a.den := by have := ha.1; omega
  have kb : 0 < b.den := by have := hb.1; omega
  have kc : 0 < c.den := by have := hc.1; omega
  have kx : 0 < x.den := by have := ox.1; omega
  have ky : 0 < y.den := by have := oy.1; omega
  unfold cmpV
  refine cmpI_sign (K := (a.den * c.den) * (b.den * c.den)) (M := (x.den * y.den) * (c.den * c.den)) (Int.mul_pos (Int.mul_pos ka kc) (Int.mul_pos kb kc)) (Int.mul_pos (Int.mul_pos kx ky) (Int.mul_pos kc kc)) ?_
  grind
theorem cmpV_mul {a b c x y : Ra} (ha : okR a) (hb : okR b) (hc : okR c) (hp : 0 < c.num) (h1 : mulP a c = (x, 0)) (h2 : mulP b c = (y, 0)) : cmpV x y = cmpV a b := by
  obtain ⟨ox, ex⟩ := mulV ha hc h1
  obtain ⟨oy, ey⟩ := mulV hb hc h2
  have ka : 0 < a.den := by have := ha.1; omega
  have kb : 0 < b.den := by have := hb.1; omega
  have kc : 0 < c.den := by have := hc.1; omega
  have kx : 0 < x.den := by have := ox.1; omega
  have ky : 0 < y.den := by have := oy.1; omega
  unfold cmpV
  refine cmpI_sign (K := (a.den * c.den) * (b.den * c.den)) (M := (x.den * y.den) * (c.num * c.den)) (Int.mul_pos (Int.mul_pos ka kc) (Int.mul_pos kb kc)) (Int.mul_pos (Int.mul_pos kx ky) (Int.mul_pos hp kc)) ?_
  grind
#print axioms mul_over
#print axioms cmpV_mul
end Go.Proofs.Ytaogcmgbmomilaa
