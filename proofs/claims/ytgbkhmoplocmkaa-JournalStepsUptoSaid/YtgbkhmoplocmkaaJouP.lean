/- Journals: plain laws of sectors: the program's form is the reference's. -/
import Derived.Test.YtgbkhmoplocmkaaJouG
namespace Go.Proofs.Ytgbkhmoplocmkaa
open Go.RowKit Go.Shelf
set_option linter.unusedSimpArgs false
set_option linter.unusedVariables false
set_option maxRecDepth 20000

def shapeR (n m : Int) : Bool := !(decide (3 < m) || (decide (112 < n) || ((decide (m < 2) && n != 112) || (m % 2 == 0 && n == 0))))
/-- the form of a sector, as the reference tells it, but for the zeros -/
def headR (bs : List Int) (k : Int) : Bool :=
  !(numB (bs.take 4) == 0 || (numB (bs.take 4) != numB ((bs.drop 124).take 4) || (IntKind.u32.wrap (numB ((bs.drop 4).take 4)) != sumB ((bs.drop 8).take 116) || (numB ((bs.drop 8).take 2) != k || !shapeR (bs.getD 11 0) (bs.getD 10 0)))))
def goodR (bs : List Int) (k : Int) : Bool := headR bs k && ((bs.take 124).drop (12 + (bs.getD 11 0).toNat)).all (fun x => x == 0)

def Byt (bs : List Int) : Prop := ∀ b ∈ bs, 0 ≤ b ∧ b < 256
theorem Byt.sub {bs : List Int} (h : Byt bs) (i n : Nat) : Byt ((bs.drop i).take n) := fun b hb => h b (List.mem_of_mem_drop (List.mem_of_mem_take hb))
theorem numB_app (xs ys : List Int) (n : Int) : (xs ++ ys).foldl (fun n c => 256 * n + c) n = ys.foldl (fun n c => 256 * n + c) (xs.foldl (fun n c => 256 * n + c) n) := List.foldl_append
theorem numB_from_eq : ∀ (bs : List Int) (n : Int), bs.foldl (fun n c => 256 * n + c) n = n * 256 ^ bs.length + numB bs
  | [], n => by simp [numB]
  | b :: bs, n => by
    unfold numB
    simp only [List.foldl_cons, List.length_cons]
    rw [numB_from_eq bs (256 * n + b), numB_from_eq bs (256 * 0 + b), Int.pow_succ]
    grind
theorem numB_cons (b : Int) (bs : List Int) : numB (b :: bs) = b * 256 ^ bs.length + numB bs := by
  have h : numB (b :: bs) = bs.foldl (fun n c => 256 * n + c) (256 * 0 + b) := rfl
  rw [h, numB_from_eq]
  simp
/-- the bytes of a number's bytes -/
theorem beB_add (n x : Int) : ∀ k, beB (x * 256 ^ k + n) k = beB n k
  | 0 => rfl
  | k + 1 => by
    unfold beB
    have h1 : x * 256 ^ (k + 1) + n = (x * 256) * 256 ^ k + n := by rw [Int.pow_succ]; grind
    rw [h1, beB_add n (x * 256) k]
    congr 1
    have h0 : (256 : Int) ^ k ≠ 0 := Int.ne_of_gt (Int.pow_pos (by omega))
    rw [Int.add_comm, Int.add_mul_ediv_right _ _ h0]
    omega
theorem beB_numB : ∀ (bs : List Int), Byt bs → beB (numB bs) bs.length = bs
  | [], _ => rfl
  | b :: bs, h => by
    rw [List.length_cons, beB, numB_cons]
    have hb := h b (by simp)
    have h2 := numB_lt bs (fun x hx => h x (by simp [hx]))
    have h0 : (0 : Int) < 256 ^ bs.length := Int.pow_pos (by omega)
    rw [beB_add, beB_numB bs (fun x hx => h x (by simp [hx]))]
    congr 1
    rw [Int.add_comm, Int.add_mul_ediv_right _ _ (Int.ne_of_gt h0), Int.ediv_eq_zero_of_lt h2.1 h2.2]
    omega
theorem numB_beB (n : Int) : ∀ k, 0 ≤ n → n < 256 ^ k → numB (beB n k) = n
  | 0, h0, h1 => by simp at h1; simp [beB, numB]; omega
  | k + 1, h0, h1 => by
    rw [beB, numB_cons, beB_len]
    have hp : (0 : Int) < 256 ^ k := Int.pow_pos (by omega)
    rw [Int.pow_succ] at h1
    have hq : n / 256 ^ k < 256 := Int.ediv_lt_of_lt_mul hp (by grind)
    have hq0 : 0 ≤ n / 256 ^ k := Int.ediv_nonneg h0 (Int.le_of_lt hp)
    have hm : n / 256 ^ k % 256 = n / 256 ^ k := Int.emod_eq_of_lt hq0 hq
    have hr0 := Int.emod_nonneg n (Int.ne_of_gt hp)
    have hr1 := Int.emod_lt_of_pos n hp
    have he := Int.mul_ediv_add_emod n (256 ^ k)
    have e2 : n = (n / 256 ^ k) * 256 ^ k + n % 256 ^ k := by rw [Int.mul_comm]; exact he.symm
    have e3 : beB n k = beB (n % 256 ^ k) k := by
      conv => lhs; rw [e2]
      exact beB_add _ _ k
    rw [hm, e3, numB_beB (n % 256 ^ k) k hr0 hr1]
    exact e2.symm

/-- the parts of a sector -/
theorem sec_parts {bs : List Int} (hl : bs.length = 128) : ∃ A B N P D : List Int, ∃ m n : Int, A.length = 4 ∧ B.length = 4 ∧ N.length = 2 ∧ P.length = 112 ∧ D.length = 4 ∧ bs = A ++ (B ++ (N ++ m :: n :: P ++ D)) := by
  refine ⟨bs.take 4, (bs.drop 4).take 4, (bs.drop 8).take 2, (bs.drop 12).take 112, bs.drop 124, bs.getD 10 0, bs.getD 11 0, by simp; omega, by simp; omega, by simp; omega, by simp; omega, by simp; omega, ?_⟩
  have e1 : bs.drop 10 = bs.getD 10 0 :: bs.drop 11 := by
    rw [List.drop_eq_getElem_cons (by omega), List.getD_eq_getElem?_getD, List.getElem?_eq_getElem (by omega)]; rfl
  have e2 : bs.drop 11 = bs.getD 11 0 :: bs.drop 12 := by
    rw [List.drop_eq_getElem_cons (by omega), List.getD_eq_getElem?_getD, List.getElem?_eq_getElem (by omega)]; rfl
  have e3 : bs.drop 12 = (bs.drop 12).take 112 ++ bs.drop 124 := by
    conv => lhs; rw [← List.take_append_drop 112 (bs.drop 12)]
    rw [List.drop_drop]
  have e4 : bs.drop 8 = (bs.drop 8).take 2 ++ bs.drop 10 := by
    conv => lhs; rw [← List.take_append_drop 2 (bs.drop 8)]
    rw [List.drop_drop]
  have e5 : bs.drop 4 = (bs.drop 4).take 4 ++ bs.drop 8 := by
    conv => lhs; rw [← List.take_append_drop 4 (bs.drop 4)]
    rw [List.drop_drop]
  conv => lhs; rw [← List.take_append_drop 4 bs, e5, e4, e1, e2, e3]
  simp
section
variable {A B N P D : List Int} {m n : Int}
theorem parts_A (hA : A.length = 4) (R : List Int) : (A ++ R).take 4 = A := by rw [← hA]; simp
theorem parts_drop (A R : List Int) {k : Nat} (hA : A.length = k) : (A ++ R).drop k = R := by rw [← hA]; simp
end
theorem take_eq_iff {P : List Int} {k : Nat} (hP : P.length = 112) (hk : k ≤ 112) : (P = P.take k ++ List.replicate (112 - k) 0) ↔ (P.drop k).all (fun x => x == 0) = true := by
  have h1 : P = P.take k ++ P.drop k := (List.take_append_drop k P).symm
  constructor
  · intro h
    have h2 : P.drop k = List.replicate (112 - k) 0 := by
      have h3 := congrArg (List.drop k) h
      rwa [parts_drop (P.take k) _ (by simp; omega)] at h3
    rw [h2]
    simp
  · intro h
    have h2 : P.drop k = List.replicate (112 - k) 0 := by
      refine List.eq_replicate_iff.2 ⟨by simp; omega, fun b hb => ?_⟩
      have := List.all_eq_true.1 h b hb
      simpa using this
    conv => lhs; rw [h1, h2]
theorem bits_small {m : Int} (h0 : 0 ≤ m) (h3 : m ≤ 3) : (bits .and .u8 m 2 == 0) = decide (m < 2) ∧ (bits .and .u8 m 1 == 0) = (m % 2 == 0) := by
  rcases (by omega : m = 0 ∨ m = 1 ∨ m = 2 ∨ m = 3) with rfl | rfl | rfl | rfl <;> decide +kernel
theorem shape_eq {n m : Int} (hn : 0 ≤ n ∧ n < 256) (hm : 0 ≤ m ∧ m < 256) : shapeOk n m = shapeR n m := by
  unfold shapeOk shapeR
  by_cases h3 : 3 < m
  · simp [h3]
  · obtain ⟨e1, e2⟩ := bits_small hm.1 (by omega)
    rw [e1, e2]
    by_cases h2 : 112 < n
    · simp [h2]
    · have e3 : decide (n < 112) = (n != 112) := by rw [Bool.eq_iff_iff]; simp; omega
      rw [e3]
      simp [h3, h2]
theorem bodyB_eq_iff {N P : List Int} {m n k : Int} (hN : N.length = 2) (hP : P.length = 112) (hb : Byt N) (hn : 0 ≤ n ∧ n ≤ 112) (hk : 0 ≤ k ∧ k < 65536) :
    (N ++ m :: n :: P = bodyB k m (P.take n.toNat)) ↔ (numB N = k ∧ (P.drop n.toNat).all (fun x => x == 0) = true) := by
  have hl : (P.take n.toNat).length = n.toNat := by simp; omega
  have hc : ((P.take n.toNat).length : Int) = n := by omega
  unfold bodyB
  rw [hc, hl]
  constructor
  · intro h
    have h1 := congrArg (List.take 2) h
    rw [show ∀ R : List Int, (N ++ R).take 2 = N from fun R => by rw [← hN]; simp] at h1
    rw [show ∀ R : List Int, (beB k 2 ++ R).take 2 = beB k 2 from fun R => by simp [beB_len]] at h1
    refine ⟨by rw [h1]; exact numB_beB k 2 hk.1 (by omega), ?_⟩
    rw [h1] at h
    have h2 := List.append_cancel_left h
    simp at h2
    exact (take_eq_iff hP (by omega)).1 h2
  · rintro ⟨h1, h2⟩
    have h3 := (take_eq_iff hP (by omega)).2 h2
    have h4 : beB k 2 = N := by rw [← h1, ← hN]; exact beB_numB N hb
    rw [h4]
    congr 3
theorem good_eq {bs : List Int} (hb : Byt bs) (hl : bs.length = 128) {k : Int} (hk : 0 ≤ k ∧ k < 65536) : goodR bs k = goodB bs k := by
  obtain ⟨A, B, N, P, D, m, n, hA, hB, hN, hP, hD, rfl⟩ := sec_parts hl
  have hbA : Byt A := fun b h => hb b (by simp [h])
  have hbB : Byt B := fun b h => hb b (by simp [h])
  have hbN : Byt N := fun b h => hb b (by simp [h])
  have hbD : Byt D := fun b h => hb b (by simp [h])
  have hm := hb m (by simp)
  have hn := hb n (by simp)
  have e4 : (A ++ (B ++ (N ++ m :: n :: P ++ D))).take 4 = A := parts_A hA _
  have d4 : (A ++ (B ++ (N ++ m :: n :: P ++ D))).drop 4 = B ++ (N ++ m :: n :: P ++ D) := parts_drop A _ hA
  have d8 : (A ++ (B ++ (N ++ m :: n :: P ++ D))).drop 8 = N ++ m :: n :: P ++ D := by
    rw [← List.append_assoc]; exact parts_drop (A ++ B) _ (by simp; omega)
  have d10 : (A ++ (B ++ (N ++ m :: n :: P ++ D))).drop 10 = m :: n :: (P ++ D) := by
    have : A ++ (B ++ (N ++ m :: n :: P ++ D)) = (A ++ B ++ N) ++ (m :: n :: (P ++ D)) := by simp
    rw [this]; exact parts_drop _ _ (by simp; omega)
  have d12 : (A ++ (B ++ (N ++ m :: n :: P ++ D))).drop 12 = P ++ D := by
    have : A ++ (B ++ (N ++ m :: n :: P ++ D)) = (A ++ B ++ N ++ [m, n]) ++ (P ++ D) := by simp
    rw [this]; exact parts_drop _ _ (by simp; omega)
  have d124 : (A ++ (B ++ (N ++ m :: n :: P ++ D))).drop 124 = D := by
    have : A ++ (B ++ (N ++ m :: n :: P ++ D)) = (A ++ B ++ N ++ m :: n :: P) ++ D := by simp
    rw [this]; exact parts_drop _ _ (by simp; omega)
  have g10 : (A ++ (B ++ (N ++ m :: n :: P ++ D))).getD 10 0 = m := by
    have := congrArg (fun l : List Int => l.getD 0 0) d10
    simpa [List.getD_eq_getElem?_getD, List.getElem?_drop] using this
  have g11 : (A ++ (B ++ (N ++ m :: n :: P ++ D))).getD 11 0 = n := by
    have := congrArg (fun l : List Int => l.getD 1 0) d10
    simpa [List.getD_eq_getElem?_getD, List.getElem?_drop] using this
  have t4 : (B ++ (N ++ m :: n :: P ++ D)).take 4 = B := parts_A hB _
  have t116 : (N ++ m :: n :: P ++ D).take 116 = N ++ m :: n :: P := by
    rw [show (116 : Nat) = (N ++ m :: n :: P).length by simp; omega]; exact List.take_left
  have t2 : (N ++ m :: n :: P ++ D).take 2 = N := by rw [← hN, List.append_assoc]; exact List.take_left
  have tD : D.take 4 = D := by rw [← hD]; simp
  unfold goodR headR goodB
  rw [e4, d4, d8, d12, d124, g10, g11, t4, t116, t2, tD, shape_eq hn hm]
  cases hs : shapeR n m
  · simp
  · have hn112 : n ≤ 112 := by unfold shapeR at hs; simp at hs; omega
    have hw : IntKind.u32.wrap (numB B) = numB B := by
      have := numB_lt B hbB
      rw [hB] at this
      rw [IntKind.wrap_u32']
      omega
    rw [hw]
    have hA0 := numB_lt A hbA
    rw [hA] at hA0
    have hp : (P ++ D).take n.toNat = P.take n.toNat := List.take_append_of_le_length (by omega)
    have hdz : ((A ++ (B ++ (N ++ m :: n :: P ++ D))).take 124).drop (12 + n.toNat) = P.drop n.toNat := by
      have h1 : A ++ (B ++ (N ++ m :: n :: P ++ D)) = (A ++ B ++ N ++ [m, n] ++ P) ++ D := by simp
      rw [h1, show (124 : Nat) = (A ++ B ++ N ++ [m, n] ++ P).length by simp; omega, List.take_left]
      rw [← List.drop_drop, parts_drop (A ++ B ++ N ++ [m, n]) P (by simp; omega)]
    rw [hp, hdz]
    have hbody := bodyB_eq_iff (m := m) hN hP hbN ⟨hn.1, hn112⟩ hk
    have hbl : (bodyB k m (P.take n.toNat)).length = 116 := body_len k m (by simp; omega)
    have hiff : (A ++ (B ++ (N ++ m :: n :: P ++ D)) = encB (numB A) k m (P.take n.toNat)) ↔ (numB B = sumB (N ++ m :: n :: P) ∧ (numB N = k ∧ (P.drop n.toNat).all (fun x => x == 0) = true) ∧ numB A = numB D) := by
      unfold encB
      have hAA : beB (numB A) 4 = A := by rw [← hA]; exact beB_numB A hbA
      rw [hAA]
      constructor
      · intro h
        have h1 := List.append_cancel_left h
        have h2 := List.append_inj h1 (by rw [hB, beB_len])
        have h3 := List.append_inj h2.2 (by rw [hbl]; simp; omega)
        have hs2 := sumB_range (bodyB k m (P.take n.toNat))
        refine ⟨?_, hbody.1 h3.1, by rw [h3.2]⟩
        rw [h2.1, h3.1]
        exact numB_beB _ 4 hs2.1 hs2.2
      · rintro ⟨h1, h2, h3⟩
        have h4 := hbody.2 h2
        have h5 : beB (sumB (bodyB k m (P.take n.toNat))) 4 = B := by rw [← h4, ← h1, ← hB]; exact beB_numB B hbB
        have h6 : A = D := by
          have a1 : beB (numB A) 4 = A := hAA
          have a2 : beB (numB D) 4 = D := by rw [← hD]; exact beB_numB D hbD
          rw [← a1, ← a2, h3]
        rw [h5, ← h4, ← h6]
    rw [Bool.eq_iff_iff]
    simp only [Bool.and_eq_true, decide_eq_true_eq, hiff, Bool.not_eq_true', Bool.or_eq_false_iff, Bool.not_true, bne_eq_false_iff_eq, beq_eq_false_iff_ne, ne_eq, true_and, and_true]
    constructor
    · rintro ⟨⟨h1, h2, h3, h4⟩, h5⟩
      exact ⟨by omega, h3, ⟨h4, h5⟩, h2⟩
    · rintro ⟨h1, h2, ⟨h3, h4⟩, h5⟩
      exact ⟨⟨by omega, h5, h2, h3⟩, h4⟩
end Go.Proofs.Ytgbkhmoplocmkaa
