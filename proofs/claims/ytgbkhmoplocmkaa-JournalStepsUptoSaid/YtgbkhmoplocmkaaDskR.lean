/- Plain laws of disks: reads, writes, syncs. -/
import Derived.Test.YtgbkhmoplocmkaaDskM
namespace Go.Proofs.Ytgbkhmoplocmkaa
set_option linter.unusedSimpArgs false
set_option linter.unusedVariables false
set_option maxRecDepth 20000

theorem read_ways (d : Dk) (x : Int) : ((readD d x).2 = 0 ∧ runsD d = true ∧ hasD d x = true) ∨ (readD d x).2 = 450 := by
  unfold readD
  cases h1 : runsD d <;> cases h2 : hasD d x <;> simp
theorem write_ways (d : Dk) (x : Int) (b : List Int) : ((writeD d x b).2 = 0 ∧ runsD d = true ∧ hasD d x = true ∧ b.length ≤ 128 ∧ d.pend.length ≠ 4096 ∧ (writeD d x b).1 = ⟨d.secs, d.pend ++ [(x, padS b)], d.left, d.stopped⟩) ∨
    ((writeD d x b).2 = 2) ∨ ((writeD d x b).2 = 1 ∧ ¬ b.length ≤ 128) ∨ ((writeD d x b).2 = 450 ∧ (runsD d = false ∨ hasD d x = false)) := by
  cases h1 : runsD d
  · right; right; right; rw [writeD_no (.inl h1)]; simp
  · cases h2 : hasD d x
    · right; right; right; rw [writeD_no (.inr h2)]; simp
    · by_cases h3 : b.length ≤ 128
      · by_cases h4 : d.pend.length = 4096
        · right; left; rw [writeD_full h1 h2 h3 h4]
        · left; rw [writeD_ok h1 h2 h3 h4]; exact ⟨rfl, rfl, rfl, h3, h4, rfl⟩
      · right; right; left; rw [writeD_long h1 h2 h3]; exact ⟨rfl, h3⟩
theorem has_facts {d : Dk} {x : Int} (h : hasD d x = true) : 0 ≤ x ∧ x < (d.secs.length : Int) := by simpa [hasD] using h
theorem runs_mk {d : Dk} (h1 : ∀ p ∈ d.pend, 0 ≤ p.1 ∧ p.1 < (d.secs.length : Int) ∧ p.2.length = 128) (h2 : ∀ b ∈ d.secs, b.length = 128) (h3 : 1 ≤ d.secs.length) (h4 : d.secs.length ≤ 4096) (h5 : d.pend.length ≤ 4096) (h6 : -1 ≤ d.left) (h7 : d.left ≤ 65536) : validD d = true := by
  simp only [validD, sizesOk, Bool.and_eq_true, decide_eq_true_eq, Bool.not_eq_true', List.any_eq_false]
  refine ⟨⟨h3, h4, h5, h6, h7⟩, fun p hp => ?_, fun b hb => ?_⟩
  · obtain ⟨a, b, c⟩ := h1 p hp
    simp [badW, isSec]
    omega
  · simp [isSec, h2 b hb]
/-- a disk that runs, one write more -/
theorem runs_snoc {d : Dk} {x : Int} {b : List Int} (h : runsD d = true) (hx : hasD d x = true) (hb : b.length ≤ 128) (hn : d.pend.length ≠ 4096) : runsD ⟨d.secs, d.pend ++ [(x, padS b)], d.left, d.stopped⟩ = true := by
  obtain ⟨v1, v2, v3, v4, v5, v6, v7, v8⟩ := runs_facts h
  obtain ⟨x0, x1⟩ := has_facts hx
  have hv := runs_mk (d := ⟨d.secs, d.pend ++ [(x, padS b)], d.left, d.stopped⟩) (fun p hp => by
    rcases List.mem_append.1 hp with h1 | h1
    · exact v1 p h1
    · obtain rfl := List.mem_singleton.1 h1
      exact ⟨x0, x1, pad_len hb⟩) v2 v3 v4 (by simp only [List.length_append, List.length_singleton]; omega) v6 v7
  show (validD _ && !d.stopped) = true
  rw [hv, v8]
  rfl
theorem sector_snoc {d : Dk} {x : Int} {b : List Int} (k : Int) : sectorD ⟨d.secs, d.pend ++ [(x, b)], d.left, d.stopped⟩ k = if x = k then b else sectorD d k := by
  unfold sectorD
  simp only
  rw [lastW_append]
  simp only [lastW]
  by_cases e : x = k <;> simp [e]
theorem perform_get : ∀ (l : List (Int × List Int)) (ss : List (List Int)) (k : Nat), k < ss.length → (∀ p ∈ l, 0 ≤ p.1) → (performD ss l).getD k [] = (lastW (k : Int) l).getD (ss.getD k [])
  | [], ss, k, _, _ => rfl
  | p :: l, ss, k, hk, h0 => by
    have hp := h0 p (List.mem_cons_self ..)
    have e : performD ss (p :: l) = performD (ss.set p.1.toNat p.2) l := rfl
    rw [e, perform_get l _ k (by simpa using hk) (fun q hq => h0 q (List.mem_cons_of_mem _ hq))]
    simp only [lastW]
    cases lastW (k : Int) l with
    | some b => rfl
    | none =>
      simp only [Option.getD_none]
      by_cases hpk : p.1 = (k : Int)
      · rw [if_pos hpk, hpk, Int.toNat_natCast, List.getD_eq_getElem?_getD, List.getElem?_set_self hk]
        rfl
      · rw [if_neg hpk, List.getD_eq_getElem?_getD, List.getElem?_set_ne (by omega), ← List.getD_eq_getElem?_getD]
        rfl
theorem sync_ways (d : Dk) (h : runsD d = true) : ((syncD d).2 = 0 ∧ (syncD d).1 = ⟨performD d.secs d.pend, [], leftD d.left d.pend.length, false⟩ ∧ ¬ (0 ≤ d.left ∧ d.left < (d.pend.length : Int))) ∨ ((syncD d).2 = 450 ∧ (syncD d).1.stopped = true) := by
  by_cases hs : 0 ≤ d.left ∧ d.left < (d.pend.length : Int)
  · right
    unfold syncD
    rw [if_pos h, if_pos hs]
    exact ⟨rfl, rfl⟩
  · left
    rw [syncD_go h hs]
    exact ⟨rfl, rfl, hs⟩
/-- behind a sync that does not stop -/
theorem sync_runs {d : Dk} (h : runsD d = true) (hs : ¬ (0 ≤ d.left ∧ d.left < (d.pend.length : Int))) : runsD ⟨performD d.secs d.pend, [], leftD d.left d.pend.length, false⟩ = true := by
  obtain ⟨v1, v2, v3, v4, v5, v6, v7, v8⟩ := runs_facts h
  have hl : -1 ≤ leftD d.left d.pend.length ∧ leftD d.left d.pend.length ≤ 65536 := by
    unfold leftD
    split <;> omega
  have hv := runs_mk (d := ⟨performD d.secs d.pend, [], leftD d.left d.pend.length, false⟩) (fun p hp => absurd hp (by simp)) (perform_all v2 (fun p hp => (v1 p hp).2.2)) (by simp only [perform_len]; omega) (by simp only [perform_len]; omega) (by simp) hl.1 hl.2
  simp [runsD, hv]
theorem sync_sector {d : Dk} {k : Nat} (h : runsD d = true) (hk : k < d.secs.length) : sectorD ⟨performD d.secs d.pend, [], leftD d.left d.pend.length, false⟩ (k : Int) = sectorD d (k : Int) := by
  obtain ⟨v1, _⟩ := runs_facts h
  unfold sectorD
  simp only [lastW, Option.getD_none, Int.toNat_natCast]
  exact perform_get d.pend d.secs k hk (fun p hp => (v1 p hp).1)
theorem lastW_mem {x : Int} : ∀ {l : List (Int × List Int)} {b : List Int}, lastW x l = some b → ∃ p ∈ l, p.2 = b
  | [], b, h => by simp [lastW] at h
  | p :: l, b, h => by
    simp only [lastW] at h
    cases e : lastW x l with
    | some c =>
      rw [e] at h
      obtain ⟨q, hq, hq2⟩ := lastW_mem e
      simp at h
      exact ⟨q, List.mem_cons_of_mem _ hq, by rw [hq2, h]⟩
    | none =>
      rw [e] at h
      simp only at h
      split at h
      · simp at h; exact ⟨p, List.mem_cons_self .., h⟩
      · simp at h
theorem sector_len {d : Dk} {x : Int} (h : runsD d = true) (hx : hasD d x = true) : (sectorD d x).length = 128 := by
  obtain ⟨v1, v2, _⟩ := runs_facts h
  obtain ⟨x0, x1⟩ := has_facts hx
  unfold sectorD
  cases e : lastW x d.pend with
  | some b =>
    obtain ⟨p, hp, rfl⟩ := lastW_mem e
    exact (v1 p hp).2.2
  | none =>
    simp only [Option.getD_none]
    have hl : x.toNat < d.secs.length := by omega
    rw [List.getD_eq_getElem?_getD, List.getElem?_eq_getElem hl]
    exact v2 _ (List.getElem_mem hl)
end Go.Proofs.Ytgbkhmoplocmkaa
