/- Plain law of DiskTogether: syncing one by one and together. -/
import Derived.Test.YtebbmplbpgilaaaDskR
namespace Go.Proofs.Ytebbmplbpgilaaa
set_option linter.unusedSimpArgs false
set_option linter.unusedVariables false

/-- a write and a sync for each, until a sync stops -/
def oneD : Dk → Int → List (Int × List Int) → Dk × Int
  | x, e, [] => (x, e)
  | x, e, w :: l => if e = 0 then oneD (syncD ⟨x.secs, x.pend ++ [w], x.left, x.stopped⟩).1 (syncD ⟨x.secs, x.pend ++ [w], x.left, x.stopped⟩).2 l else (x, e)
theorem oneD_end {x : Dk} {e : Int} (h : e ≠ 0) : ∀ l, oneD x e l = (x, e)
  | [] => rfl
  | w :: l => by unfold oneD; rw [if_neg h]
/-- what makes a disk with waiting writes run -/
def GoodP (ss : List (List Int)) (l : List (Int × List Int)) (left : Int) : Prop :=
  (∀ p ∈ l, 0 ≤ p.1 ∧ p.1 < (ss.length : Int) ∧ p.2.length = 128) ∧ (∀ b ∈ ss, b.length = 128) ∧ 1 ≤ ss.length ∧ ss.length ≤ 4096 ∧ l.length ≤ 4096 ∧ -1 ≤ left ∧ left ≤ 65536
theorem GoodP.runs {ss : List (List Int)} {l : List (Int × List Int)} {left : Int} (h : GoodP ss l left) : runsD ⟨ss, l, left, false⟩ = true := by
  obtain ⟨h1, h2, h3, h4, h5, h6, h7⟩ := h
  show (validD _ && !false) = true
  rw [runs_mk (d := ⟨ss, l, left, false⟩) h1 h2 h3 h4 h5 h6 h7]
  rfl
theorem GoodP.one {ss : List (List Int)} {w : Int × List Int} {l : List (Int × List Int)} {left : Int} (h : GoodP ss (w :: l) left) : GoodP ss [w] left := by
  obtain ⟨h1, h2, h3, h4, h5, h6, h7⟩ := h
  exact ⟨fun p hp => h1 p (by simp at hp; subst hp; exact List.mem_cons_self ..), h2, h3, h4, by simp, h6, h7⟩
theorem GoodP.rest {ss : List (List Int)} {w : Int × List Int} {l : List (Int × List Int)} {left : Int} (h : GoodP ss (w :: l) left) (h0 : left ≠ 0) : GoodP (performD ss [w]) l (leftD left 1) := by
  obtain ⟨h1, h2, h3, h4, h5, h6, h7⟩ := h
  refine ⟨fun p hp => by rw [perform_len]; exact h1 p (List.mem_cons_of_mem _ hp), perform_all h2 (fun p hp => (h1 p (by simp at hp; subst hp; exact List.mem_cons_self ..)).2.2), by rw [perform_len]; exact h3, by rw [perform_len]; exact h4, by simp at h5; omega, ?_, ?_⟩
  · unfold leftD; split <;> omega
  · unfold leftD; split <;> omega
theorem sync_first {ss : List (List Int)} {w : Int × List Int} {l : List (Int × List Int)} (h : GoodP ss (w :: l) 0) : syncD ⟨ss, w :: l, 0, false⟩ = syncD ⟨ss, [w], 0, false⟩ ∧ (syncD ⟨ss, [w], 0, false⟩).2 = 450 := by
  have e1 := h.runs
  have e2 := h.one.runs
  unfold syncD
  rw [if_pos e1, if_pos e2, if_pos (by simp), if_pos (by simp)]
  exact ⟨rfl, rfl⟩
theorem sync_next {ss : List (List Int)} {w : Int × List Int} {l : List (Int × List Int)} {left : Int} (h : GoodP ss (w :: l) left) (h0 : left ≠ 0) :
    syncD ⟨ss, w :: l, left, false⟩ = syncD ⟨performD ss [w], l, leftD left 1, false⟩ ∧ syncD ⟨ss, [w], left, false⟩ = (⟨performD ss [w], [], leftD left 1, false⟩, 0) := by
  have e1 := h.runs
  have e2 := h.one.runs
  have e3 := (h.rest h0).runs
  obtain ⟨_, _, _, _, _, h6, h7⟩ := h
  constructor
  · by_cases hs : 0 ≤ left ∧ left < ((w :: l).length : Int)
    · obtain ⟨m, hm⟩ : ∃ m : Nat, left = (m : Int) + 1 := ⟨left.toNat - 1, by omega⟩
      have hl : leftD left 1 = (m : Int) := by unfold leftD; rw [if_pos hs.1]; omega
      have hs2 : 0 ≤ leftD left 1 ∧ leftD left 1 < (l.length : Int) := by rw [hl]; simp at hs; omega
      have ht : left.toNat = m + 1 := by omega
      unfold syncD
      rw [if_pos e1, if_pos e3, if_pos hs, if_pos hs2]
      simp only [hl, ht, Int.toNat_natCast, List.take_succ_cons, List.getD_cons_succ]
      rfl
    · have hs2 : ¬ (0 ≤ leftD left 1 ∧ leftD left 1 < (l.length : Int)) := by unfold leftD; simp at hs ⊢; split <;> omega
      rw [syncD_go e1 hs, syncD_go e3 hs2]
      have : leftD left (w :: l).length = leftD (leftD left 1) l.length := by
        unfold leftD
        simp only [List.length_cons]
        by_cases hp : 0 ≤ left
        · rw [if_pos hp, if_pos hp]; simp at hs; rw [if_pos (by omega)]; omega
        · rw [if_neg hp, if_neg hp, if_neg hp]
      simp only [this]
      rfl
  · have hs : ¬ (0 ≤ left ∧ left < (([w] : List (Int × List Int)).length : Int)) := by simp; omega
    rw [syncD_go e2 hs]
    rfl
theorem one_all : ∀ (l : List (Int × List Int)) (ss : List (List Int)) (left : Int), GoodP ss l left → oneD ⟨ss, [], left, false⟩ 0 l = syncD ⟨ss, l, left, false⟩
  | [], ss, left, h => by
    rw [syncD_go h.runs (by simp)]
    unfold oneD leftD performD
    simp
  | w :: l, ss, left, h => by
    unfold oneD
    rw [if_pos rfl]
    simp only [List.nil_append]
    by_cases h0 : left = 0
    · subst h0
      obtain ⟨a, b⟩ := sync_first h
      rw [oneD_end (by rw [b]; decide), a]
    · obtain ⟨a, b⟩ := sync_next h h0
      rw [b, a]
      exact one_all l _ _ (h.rest h0)
end Go.Proofs.Ytebbmplbpgilaaa
