/- What AverageCounts says of the attempts that count: plain laws. -/
import Derived.Test.YtimaealmmjdjkaaAvgL1
namespace Go.Proofs.Ytimaealmmjdjkaa
set_option linter.unusedSimpArgs false
set_option linter.unusedVariables false

section
variable {f : Nat → At} {r : Nat → Int} {n : Nat}
/-- the numbers of those that count, in their order -/
def cIdx (f : Nat → At) (r : Nat → Int) (n : Nat) : List Nat := (List.range n).filter (countsB f r n)
theorem countedL_idx (f : Nat → At) (r : Nat → Int) (n : Nat) : countedL f r n = (cIdx f r n).map f := rfl
theorem cIdx_sorted (f : Nat → At) (r : Nat → Int) (n : Nat) : (cIdx f r n).Pairwise (· < ·) := List.pairwise_lt_range.filter _
theorem cIdx_mem {j : Nat} (h : j ∈ cIdx f r n) : j < n ∧ countsB f r n j = true := by
  unfold cIdx at h
  rw [List.mem_filter] at h
  exact ⟨by simpa using h.1, h.2⟩
theorem cIdx_len (f : Nat → At) (r : Nat → Int) (n : Nat) : (cIdx f r n).length ≤ n := Nat.le_trans (List.length_filter_le _ _) (by simp)

/-- who counts is beaten by nobody -/
theorem counts_unbeaten {j k : Nat} (hc : countsB f r n j = true) (hk : k < n) (hkj : k ≠ j) (hr : r j ≠ 2) (hcs : (f k).course = (f j).course) : betterB (r j) (f k) (f j) k j = false := by
  unfold countsB at hc
  rw [List.all_eq_true] at hc
  have := hc k (by simpa using hk)
  simpa [beats, hkj, hr, hcs] using this
theorem counts_each {j : Nat} (hr : r j = 2) : countsB f r n j = true := by
  unfold countsB
  simp [beats, hr]

/-- the kind that the law finds for an attempt: of the last one that is equal to it -/
def kindTo (f : Nat → At) (r : Nat → Int) (x : At) : Nat → Int
  | 0 => -1
  | k + 1 => if f k = x then r k else kindTo f r x k
theorem kindTo_is (ho : Okay f r n) {j : Nat} (hj : j < n) : ∀ k, k ≤ n → (j < k → kindTo f r (f j) k = r j) ∧ (kindTo f r (f j) k = -1 ∨ kindTo f r (f j) k = r j)
  | 0, _ => ⟨fun h => absurd h (by omega), .inl rfl⟩
  | k + 1, hk => by
    obtain ⟨h1, h2⟩ := kindTo_is ho hj k (by omega)
    unfold kindTo
    by_cases e : f k = f j
    · rw [if_pos e]
      have := ho.2 k j (by omega) hj (by rw [e])
      exact ⟨fun _ => this, .inr this⟩
    · rw [if_neg e]
      exact ⟨fun h => h1 (by have : j ≠ k := fun x => e (by rw [x]); omega), h2⟩

/-- what is asked of each other attempt of the course -/
theorem counts_best {j k : Nat} (hc : countsB f r n j = true) (hk : k < n) (hcs : (f k).course = (f j).course) :
    (r j = 0 → ¬ (f j).grade < (f k).grade ∧ ¬ ((f k).grade = (f j).grade ∧ (f k).term < (f j).term)) ∧ (r j = 1 → ¬ (f j).term < (f k).term) := by
  by_cases hkj : k = j
  · subst hkj; exact ⟨fun _ => ⟨by omega, by omega⟩, fun _ => by omega⟩
  · refine ⟨fun h => ?_, fun h => ?_⟩
    · have hb := counts_unbeaten hc hk hkj (by rw [h]; decide) hcs
      have hn : ¬ betterB (r j) (f k) (f j) k j = true := by simp [hb]
      rw [betterB_iff, h] at hn
      omega
    · have hb := counts_unbeaten hc hk hkj (by rw [h]; decide) hcs
      have hn : ¬ betterB (r j) (f k) (f j) k j = true := by simp [hb]
      rw [betterB_iff, h] at hn
      omega

theorem countP_one {q : Nat → Bool} : ∀ {n j : Nat}, j < n → q j = true → (∀ k, k < n → q k = true → k = j) → (List.range n).countP q = 1
  | 0, _, h, _, _ => absurd h (by omega)
  | n + 1, j, hj, hq, hu => by
    rw [List.range_succ, List.countP_append]
    by_cases e : j = n
    · subst e
      have h0 : (List.range j).countP q = 0 := by
        rw [List.countP_eq_zero]
        intro k hk hqk
        have := hu k (by simp at hk; omega) hqk
        simp at hk; omega
      rw [h0]; simp [hq]
    · have h1 := countP_one (n := n) (j := j) (by omega) hq (fun k hk => hu k (by omega))
      have h2 : q n = false := by
        cases h : q n
        · rfl
        · exact absurd (hu n (by omega) h).symm e
      rw [h1]; simp [h2]
/-- one of a course is beaten by none -/
theorem best_of (ho : Okay f r n) {c : Int} : ∀ m, m ≤ n → (∃ i, i < m ∧ (f i).course = c) → ∃ j, j < m ∧ (f j).course = c ∧ ∀ k, k < m → (f k).course = c → k ≠ j → betterB (r j) (f k) (f j) k j = false
  | 0, _, ⟨i, hi, _⟩ => absurd hi (by omega)
  | m + 1, hm, ⟨i, hi, hic⟩ => by
    by_cases hex : ∃ i, i < m ∧ (f i).course = c
    · obtain ⟨j, hj, hjc, hjb⟩ := best_of ho m (by omega) hex
      by_cases hmc : (f m).course = c
      · have hrm : r j = r m := ho.2 j m (by omega) (by omega) (by rw [hjc, hmc])
        cases hb : betterB (r j) (f m) (f j) m j
        · exact ⟨j, by omega, hjc, fun k hk hkc hkj => by
            by_cases e : k = m
            · rw [e]; exact hb
            · exact hjb k (by omega) hkc hkj⟩
        · refine ⟨m, by omega, hmc, fun k hk hkc hkm => ?_⟩
          rw [← hrm]
          by_cases e : k = j
          · rw [e]; exact betterB_asymm hb
          · have h1 := hjb k (by omega) hkc e
            cases hx : betterB (r j) (f k) (f m) k m
            · rfl
            · rw [betterB_trans hx hb] at h1; cases h1
      · exact ⟨j, by omega, hjc, fun k hk hkc hkj => hjb k (by have : k ≠ m := fun e => hmc (by rw [← e]; exact hkc); omega) hkc hkj⟩
    · have him : i = m := by
        by_cases e : i = m
        · exact e
        · exact absurd ⟨i, by omega, hic⟩ hex
      subst him
      exact ⟨i, by omega, hic, fun k hk hkc hki => absurd ⟨k, by omega, hkc⟩ hex⟩

/-- how many of a course count -/
theorem count_law (ho : Okay f r n) {i : Nat} (hi : i < n) :
    (r i = 2 → (cIdx f r n).countP (fun j => decide ((f j).course = (f i).course)) = (List.range n).countP (fun j => decide ((f j).course = (f i).course))) ∧
    (r i ≠ 2 → (cIdx f r n).countP (fun j => decide ((f j).course = (f i).course)) = 1) := by
  unfold cIdx
  rw [List.countP_filter]
  refine ⟨fun h => ?_, fun h => ?_⟩
  · refine List.countP_congr (fun k hk => ?_)
    by_cases hc : (f k).course = (f i).course
    · have : r k = 2 := by rw [ho.2 k i (by simpa using hk) hi hc]; exact h
      simp [hc, counts_each this]
    · simp [hc]
  · obtain ⟨j, hj, hjc, hjb⟩ := best_of ho n (Nat.le_refl _) ⟨i, hi, rfl⟩
    have hrj : r j ≠ 2 := by rw [ho.2 j i hj hi hjc]; exact h
    refine countP_one hj ?_ (fun k hk hq => ?_)
    · have : countsB f r n j = true := by
        unfold countsB
        rw [List.all_eq_true]
        intro k hk
        have hk : k < n := by simpa using hk
        by_cases hkj : k = j
        · simp [beats, hkj]
        · by_cases hc : (f k).course = (f j).course
          · simp [beats, hkj, hrj, hc, hjb k hk (by rw [hc]; exact hjc) hkj]
          · simp [beats, hc]
      simp [hjc, this]
    · simp only [Bool.and_eq_true, decide_eq_true_eq] at hq
      obtain ⟨hkc, hkb⟩ := hq
      by_cases e : k = j
      · exact e
      · exfalso
        have h1 := hjb k hk hkc e
        have hrk : r k = r j := ho.2 k j hk hj (by rw [hkc, hjc])
        have h2 := counts_unbeaten hkb hj (Ne.symm e) (by rw [hrk]; exact hrj) (by rw [hkc, hjc])
        have h3 := betterB_total e h1
        rw [hrk] at h2
        rw [h2] at h3; cases h3

/-- what counts is counted again -/
theorem again_ok (ho : Okay f r n) : Okay (fAt ((cIdx f r n).map f)) (rAt ((cIdx f r n).map r)) (cIdx f r n).length := by
  have hf : ∀ i (hi : i < (cIdx f r n).length), fAt ((cIdx f r n).map f) i = f (cIdx f r n)[i] := fun i hi => fAt_some (by simp [hi])
  have hr : ∀ i (hi : i < (cIdx f r n).length), rAt ((cIdx f r n).map r) i = r (cIdx f r n)[i] := fun i hi => rAt_some (by simp [hi])
  refine ⟨fun i hi => ?_, fun i k hi hk hc => ?_⟩
  · rw [hr i hi]; exact ho.1 _ (cIdx_mem (List.getElem_mem hi)).1
  · rw [hf i hi, hf k hk] at hc
    rw [hr i hi, hr k hk]
    exact ho.2 _ _ (cIdx_mem (List.getElem_mem hi)).1 (cIdx_mem (List.getElem_mem hk)).1 hc
theorem betterB_turn {kind : Int} {a b : At} {k i k' i' : Nat} (h1 : k < i ↔ k' < i') (h2 : i < k ↔ i' < k') : betterB kind a b k i = betterB kind a b k' i' := by
  rw [Bool.eq_iff_iff, betterB_iff, betterB_iff, h1, h2]
theorem again_counts (ho : Okay f r n) {i : Nat} (hi : i < (cIdx f r n).length) : countsB (fAt ((cIdx f r n).map f)) (rAt ((cIdx f r n).map r)) (cIdx f r n).length i = true := by
  have hf : ∀ i (hi : i < (cIdx f r n).length), fAt ((cIdx f r n).map f) i = f (cIdx f r n)[i] := fun i hi => fAt_some (by simp [hi])
  have hr : ∀ i (hi : i < (cIdx f r n).length), rAt ((cIdx f r n).map r) i = r (cIdx f r n)[i] := fun i hi => rAt_some (by simp [hi])
  have hs := List.pairwise_iff_getElem.1 (cIdx_sorted f r n)
  unfold countsB
  rw [List.all_eq_true]
  intro k hk
  have hk : k < (cIdx f r n).length := by simpa using hk
  unfold beats
  rw [hf i hi, hf k hk, hr i hi]
  by_cases hki : k = i
  · simp [hki]
  · by_cases hr2 : r (cIdx f r n)[i] = 2
    · simp [hr2]
    · by_cases hc : (f (cIdx f r n)[k]).course = (f (cIdx f r n)[i]).course
      · have hlt : ∀ a b (ha : a < (cIdx f r n).length) (hb : b < (cIdx f r n).length), a < b ↔ (cIdx f r n)[a] < (cIdx f r n)[b] := fun a b ha hb => by
          constructor
          · exact fun h => hs a b ha hb h
          · intro h
            rcases Nat.lt_trichotomy a b with h1 | h1 | h1
            · exact h1
            · subst h1; omega
            · have := hs b a hb ha h1; omega
        have hb := counts_unbeaten (cIdx_mem (List.getElem_mem hi)).2 (cIdx_mem (List.getElem_mem hk)).1 (fun e => hki (by
          rcases Nat.lt_trichotomy k i with h1 | h1 | h1
          · have := hs k i hk hi h1; omega
          · exact h1
          · have := hs i k hi hk h1; omega)) hr2 hc
        rw [betterB_turn (hlt k i hk hi) (hlt i k hi hk), hb]
        simp
      · simp [hc]
theorem again_law {xs : List At} {rs : List Int} (h : (xs.any fun a => !a.good) = false) (hl : rs.length = xs.length) (ho : Okay (fAt xs) (rAt rs) xs.length) :
    countedA (countedL (fAt xs) (rAt rs) xs.length) ((cIdx (fAt xs) (rAt rs) xs.length).map (rAt rs)) = (countedL (fAt xs) (rAt rs) xs.length, 0) := by
  have hbad : ((countedL (fAt xs) (rAt rs) xs.length).any fun a => !a.good) = false := by
    rw [List.any_eq_false] at h ⊢
    intro x hx
    rw [countedL_idx, List.mem_map] at hx
    obtain ⟨j, hj, rfl⟩ := hx
    have hjn := (cIdx_mem hj).1
    exact h _ (by rw [fAt_some (List.getElem?_eq_getElem hjn)]; exact List.getElem_mem hjn)
  have hlen : ((cIdx (fAt xs) (rAt rs) xs.length).map (rAt rs)).length = (countedL (fAt xs) (rAt rs) xs.length).length := by rw [countedL_idx]; simp
  have hln : (countedL (fAt xs) (rAt rs) xs.length).length = (cIdx (fAt xs) (rAt rs) xs.length).length := by rw [countedL_idx]; simp
  rw [countedA_ok hbad hlen (by rw [hln, countedL_idx]; exact again_ok ho)]
  congr 1
  rw [hln]
  conv => lhs; rw [countedL_idx (fAt (countedL _ _ _))]
  unfold cIdx
  rw [List.filter_eq_self.2 (fun i hi => by
    have := again_counts ho (i := i) (by simpa [cIdx] using hi)
    rw [countedL_idx]
    exact this)]
  refine List.ext_getElem (by simp [hln, cIdx]) (fun i h1 h2 => ?_)
  simp only [List.getElem_map, List.getElem_range]
  exact fAt_some (List.getElem?_eq_getElem h2)
end
end Go.Proofs.Ytimaealmmjdjkaa
