/- Plain laws of the means of two parts. No program in sight. -/
import Derived.Test.YtaogcmgbmomilaaRatW
namespace Go.Proofs.Ytaogcmgbmomilaa
set_option linter.unusedSimpArgs false
set_option linter.unusedVariables false

theorem sW_append : ∀ a b : List (Int × Int), sW (a ++ b) = sW a + sW b
  | [], b => by simp [sW]
  | x :: a, b => by simp only [List.cons_append, sW, sW_append a b]; omega
theorem sVW_append : ∀ a b : List (Int × Int), sVW (a ++ b) = sVW a + sVW b
  | [], b => by simp [sVW]
  | x :: a, b => by simp only [List.cons_append, sVW, sVW_append a b]; omega
theorem sW_bound : ∀ l : List (Int × Int), (∀ x ∈ l, 0 ≤ x.2 ∧ x.2 ≤ 255) → 0 ≤ sW l ∧ sW l ≤ 255 * (l.length : Int)
  | [], _ => by simp [sW]
  | x :: l, h => by
    obtain ⟨h1, h2⟩ := sW_bound l (fun y hy => h y (List.mem_cons_of_mem _ hy))
    obtain ⟨g1, g2⟩ := h x (List.mem_cons_self ..)
    simp only [sW, List.length_cons]
    omega
theorem zip_weights {us vs : List Int} (hV : ∀ y ∈ vs, 0 ≤ y ∧ y ≤ 255) : ∀ x ∈ us.zip vs, 0 ≤ x.2 ∧ x.2 ≤ 255 := fun x hx => hV _ (List.of_mem_zip (a := x.1) (b := x.2) hx).2
theorem part_le {us vs : List Int} (hU : ∀ y ∈ us, -128 ≤ y ∧ y ≤ 127) (hV : ∀ y ∈ vs, 0 ≤ y ∧ y ≤ 255) (k : Nat) (hk : k ≤ 40) : 0 ≤ sW ((us.zip vs).take k) ∧ sW ((us.zip vs).take k) ≤ 10200 := by
  obtain ⟨h1, h2⟩ := sW_bound ((us.zip vs).take k) (fun x hx => zip_weights hV x (List.mem_of_mem_take hx))
  have : ((us.zip vs).take k).length ≤ k := by simp; omega
  omega
theorem part_mono {us vs : List Int} (hU : ∀ y ∈ us, -128 ≤ y ∧ y ≤ 127) (hV : ∀ y ∈ vs, 0 ≤ y ∧ y ≤ 255) (j k : Nat) (hjk : j ≤ k) : sW ((us.zip vs).take j) ≤ sW ((us.zip vs).take k) := by
  have e : (us.zip vs).take k = (us.zip vs).take j ++ ((us.zip vs).drop j).take (k - j) := by
    rw [← List.take_add, show j + (k - j) = k from by omega]
  have h := (sW_bound (((us.zip vs).drop j).take (k - j)) (fun x hx => zip_weights hV x (List.mem_of_mem_drop (List.mem_of_mem_take hx)))).1
  rw [e, sW_append]
  omega

/-- a mean times its weights is the sum -/
theorem mean_times {r : Ra} {S W : Int} (ok : okR r) (h : r.num * (max W 1) = S * r.den) (hz : W = 0 → r = ⟨0, 1⟩ ∧ S = 0) (w0 : 0 ≤ W) (w1 : W ≤ 1073741824) (s0 : -1073741824 ≤ S) (s1 : S ≤ 1073741824) : mulP r ⟨W, 1⟩ = (⟨S, 1⟩, 0) := by
  by_cases h0 : W = 0
  · obtain ⟨rfl, rfl⟩ := hz h0
    subst h0
    decide +kernel
  · have okW : okR ⟨W, 1⟩ := ⟨by simp, by simp, by simp only; omega, by simp only; omega, by simp⟩
    have okS : okR ⟨S, 1⟩ := ⟨by simp, by simp, by simp only; omega, by simp only; omega, by simp⟩
    unfold mulP
    rw [if_pos ⟨ok, okW⟩]
    rw [show max W 1 = W from by omega] at h
    simp only [Int.mul_one]
    rw [newP_same (n' := S) (d' := 1) ok.den_ne (by decide) (by rw [h]; grind)]
    exact newP_self okS
theorem Small.take {us ws : List Int} (h : Small us ws) (p : Nat) : Small (us.take p) (ws.take p) :=
  ⟨fun x hx => h.1 x (List.mem_of_mem_take hx), fun x hx => h.2.1 x (List.mem_of_mem_take hx), by simp [h.2.2.1], by have := h.2.2.2; simp; omega⟩
theorem Small.drop {us ws : List Int} (h : Small us ws) (p : Nat) : Small (us.drop p) (ws.drop p) :=
  ⟨fun x hx => h.1 x (List.mem_of_mem_drop hx), fun x hx => h.2.1 x (List.mem_of_mem_drop hx), by simp [h.2.2.1], by have := h.2.2.2; simp; omega⟩
theorem mean_times_small {us ws : List Int} (h : Small us ws) : ∃ r, meanP us ws = (r, 0) ∧ okR r ∧ mulP r ⟨sW (us.zip ws), 1⟩ = (⟨sVW (us.zip ws), 1⟩, 0) ∧ 0 ≤ sW (us.zip ws) ∧ sW (us.zip ws) ≤ 51000 ∧ -6528000 ≤ sVW (us.zip ws) ∧ sVW (us.zip ws) ≤ 6528000 := by
  obtain ⟨r, h1, h2, h3, h4⟩ := mean_small h
  obtain ⟨b1, b2, b3, b4⟩ := Small.sums (us := us) (ws := ws) _ h.pair
  have hz := h.zlen
  refine ⟨r, h1, h2, mean_times h2 h3 (fun h0 => ⟨h4 h0, ?_⟩) (by omega) (by omega) (by omega) (by omega), by omega, by omega, by omega, by omega⟩
  exact all_zero (us.zip ws) (fun x hx => by have := h.pair x hx; simp [badP]; omega) h0
theorem zip_take (us ws : List Int) (p : Nat) : (us.take p).zip (ws.take p) = (us.zip ws).take p := by
  induction us generalizing ws p with
  | nil => simp
  | cons u us ih =>
    cases ws with
    | nil => simp
    | cons v ws =>
      cases p with
      | zero => simp
      | succ p => simp [ih]
theorem zip_drop (us ws : List Int) (p : Nat) : (us.drop p).zip (ws.drop p) = (us.zip ws).drop p := by
  induction us generalizing ws p with
  | nil => simp
  | cons u us ih =>
    cases ws with
    | nil => simp
    | cons v ws =>
      cases p with
      | zero => simp
      | succ p => simp [ih]
/-- the law of parts -/
theorem parts_law {us ws : List Int} (h : Small us ws) (p : Nat) : ∃ (r a b : Ra) (S1 S2 S : Int), meanP us ws = (r, 0) ∧ meanP (us.take p) (ws.take p) = (a, 0) ∧ meanP (us.drop p) (ws.drop p) = (b, 0) ∧
    mulP a ⟨sW ((us.zip ws).take p), 1⟩ = (⟨S1, 1⟩, 0) ∧ mulP b ⟨sW (us.zip ws) - sW ((us.zip ws).take p), 1⟩ = (⟨S2, 1⟩, 0) ∧ addP ⟨S1, 1⟩ ⟨S2, 1⟩ = (⟨S, 1⟩, 0) ∧ mulP r ⟨sW (us.zip ws), 1⟩ = (⟨S, 1⟩, 0) ∧
    r.i64 ∧ a.i64 ∧ b.i64 ∧ I64 S1 ∧ I64 S2 ∧ 0 ≤ sW ((us.zip ws).take p) ∧ sW ((us.zip ws).take p) ≤ sW (us.zip ws) ∧ sW (us.zip ws) ≤ 51000 := by
  obtain ⟨r, r1, r2, r3, r4, r5, r6, r7⟩ := mean_times_small h
  obtain ⟨a, a1, a2, a3, a4, a5, a6, a7⟩ := mean_times_small (h.take p)
  obtain ⟨b, b1, b2, b3, b4, b5, b6, b7⟩ := mean_times_small (h.drop p)
  rw [zip_take] at a3 a4 a5 a6 a7
  rw [zip_drop] at b3 b4 b5 b6 b7
  have eW := sW_append ((us.zip ws).take p) ((us.zip ws).drop p)
  have eS := sVW_append ((us.zip ws).take p) ((us.zip ws).drop p)
  rw [List.take_append_drop] at eW eS
  have i64 : ∀ {q : Ra}, okR q → q.i64 := fun {q} hq => by obtain ⟨x1, x2, x3, x4, _⟩ := hq; show I64 q.num ∧ I64 q.den; exact ⟨by unfold I64; omega, by unfold I64; omega⟩
  refine ⟨r, a, b, sVW ((us.zip ws).take p), sVW ((us.zip ws).drop p), sVW (us.zip ws), r1, a1, b1, a3, ?_, ?_, r3, i64 r2, i64 a2, i64 b2, by unfold I64; omega, ?_, a4, by omega, r5⟩
  · rw [show sW (us.zip ws) - sW ((us.zip ws).take p) = sW ((us.zip ws).drop p) from by omega]; exact b3
  · unfold addP
    rw [if_pos ⟨⟨by simp, by simp, by simp only; omega, by simp only; omega, by simp⟩, ⟨by simp, by simp, by simp only; omega, by simp only; omega, by simp⟩⟩]
    simp only [Int.mul_one]
    rw [← eS]
    have okS : okR ⟨sVW (us.zip ws), 1⟩ := ⟨by simp, by simp, by simp only; omega, by simp only; omega, by simp⟩
    exact newP_self okS
  · unfold I64; omega
end Go.Proofs.Ytaogcmgbmomilaa
