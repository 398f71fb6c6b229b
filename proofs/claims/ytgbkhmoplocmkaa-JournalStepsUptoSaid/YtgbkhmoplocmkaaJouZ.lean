/- Journals: plain: records appended one after the other, as far as they fit. -/
import Derived.Test.YtgbkhmoplocmkaaJouX
namespace Go.Proofs.Ytgbkhmoplocmkaa
open Go.RowKit Go.Shelf
set_option linter.unusedSimpArgs false
set_option linter.unusedVariables false
set_option maxRecDepth 20000

/-- a journal of a disk of n sectors, its records read from memory -/
structure JIn (n : Nat) (l : Jl) : Prop where
  valid : validJ l = true
  many : l.many = n
  n1 : 1 ≤ n
  n96 : n ≤ 4096
  fit : sumK l.recs ≤ n
  byt : ∀ b ∈ l.recs, Byt b
  long : ∀ b ∈ l.recs, b.length ≤ 9223372036854775696
theorem sumK_single (b : List Int) : sumK [b] = sectK b := by
  unfold sumK
  rw [List.map_cons, List.map_nil, List.sum_cons, List.sum_nil, Nat.add_zero]
theorem JIn.used {n : Nat} {l : Jl} (h : JIn n l) : usedR l.recs = sumK l.recs := usedR_sum (Nat.le_trans h.fit (Nat.le_trans h.n96 (by decide)))
theorem JIn.diff {n : Nat} {l : Jl} (h : JIn n l) : wrap64 (l.many - usedR l.recs) = (n : Int) - (sumK l.recs : Int) := by
  have h1 := h.fit
  have h2 := h.n96
  rw [h.used, h.many]
  generalize sumK l.recs = K at *
  exact IntWalk.wrap64_in _ ⟨by omega, by omega⟩
/-- one record more: it is appended, or it does not fit -/
theorem JIn.append {n : Nat} {l : Jl} (h : JIn n l) {b : List Int} (hb : Byt b) (hl : b.length ≤ 9223372036854775696) :
    (appendJ l b = (⟨l.recs ++ [b], l.many, l.synced⟩, 0) ∧ JIn n ⟨l.recs ++ [b], l.many, l.synced⟩ ∧ sumK l.recs + sectK b ≤ n) ∨ (appendJ l b = (Jl.zero, 2) ∧ n < sumK l.recs + sectK b) := by
  have h4 := sectK_int b
  by_cases hw : wrap64 (l.many - usedR l.recs) < sectN b.length
  · right
    refine ⟨appendJ_full h.valid hw, ?_⟩
    rw [h.diff, ← h4] at hw
    generalize sumK l.recs = K at *
    generalize sectK b = S at *
    clear h4
    omega
  · left
    have ha := appendJ_ok h.valid hw
    rw [h.diff, ← h4] at hw
    have hf : sumK l.recs + sectK b ≤ n := by
      generalize sumK l.recs = K at *
      generalize sectK b = S at *
      clear h4
      omega
    have hs : sumK (l.recs ++ [b]) = sumK l.recs + sectK b := by rw [sumK_app, sumK_single]
    have hu : usedR (l.recs ++ [b]) = ((sumK l.recs + sectK b : Nat) : Int) := by
      rw [usedR_sum (by rw [hs]; exact Nat.le_trans hf (Nat.le_trans h.n96 (by decide))), hs]
    have hv := h.valid
    simp only [validJ, Bool.not_eq_true', Bool.or_eq_false_iff, decide_eq_false_iff_not] at hv
    refine ⟨ha, ⟨?_, h.many, h.n1, h.n96, by rw [hs]; exact hf, ?_, ?_⟩, hf⟩
    · simp only [validJ, Bool.not_eq_true', Bool.or_eq_false_iff, decide_eq_false_iff_not, hu, List.length_append, List.length_singleton]
      refine ⟨hv.1, hv.2.1, hv.2.2.1, Int.not_lt.2 (Int.le_trans (Int.not_lt.1 hv.2.2.2.1) (Int.ofNat_le.2 (Nat.le_succ _))), Int.not_lt.2 ?_⟩
      rw [h.many]
      exact Int.ofNat_le.2 hf
    · intro x hx
      rcases List.mem_append.1 hx with h1 | h1
      · exact h.byt x h1
      · rw [List.mem_singleton.1 h1]; exact hb
    · intro x hx
      rcases List.mem_append.1 hx with h1 | h1
      · exact h.long x h1
      · rw [List.mem_singleton.1 h1]; exact hl
/-- records appended as far as each fits -/
def addJ (l : Jl) : List (List Int) → Jl
  | [] => l
  | b :: r => addJ (if (appendJ l b).2 = 0 then (appendJ l b).1 else l) r
theorem addJ_in {n : Nat} : ∀ (rs : List (List Int)) {l : Jl}, JIn n l → (∀ b ∈ rs, Byt b ∧ b.length ≤ 9223372036854775696) → JIn n (addJ l rs) ∧ (addJ l rs).many = l.many ∧ (addJ l rs).synced = l.synced ∧ ∃ ms, (addJ l rs).recs = l.recs ++ ms
  | [], l, h, _ => ⟨h, rfl, rfl, [], by simp [addJ]⟩
  | b :: r, l, h, hr => by
    have hb := hr b (List.mem_cons_self ..)
    have hr2 : ∀ b ∈ r, Byt b ∧ b.length ≤ 9223372036854775696 := fun x hx => hr x (List.mem_cons_of_mem _ hx)
    rcases h.append hb.1 hb.2 with ⟨h1, h2, _⟩ | ⟨h1, _⟩
    · obtain ⟨i1, i2, i3, ms, i4⟩ := addJ_in r h2 hr2
      have e : addJ l (b :: r) = addJ ⟨l.recs ++ [b], l.many, l.synced⟩ r := by simp [addJ, h1]
      rw [e]
      exact ⟨i1, i2, i3, b :: ms, by rw [i4]; simp⟩
    · obtain ⟨i1, i2, i3, ms, i4⟩ := addJ_in r h hr2
      have e : addJ l (b :: r) = addJ l r := by simp [addJ, h1]
      rw [e]
      exact ⟨i1, i2, i3, ms, i4⟩
theorem addJ_app (l : Jl) : ∀ (rs ss : List (List Int)), addJ l (rs ++ ss) = addJ (addJ l rs) ss
  | [], ss => rfl
  | b :: r, ss => addJ_app _ r ss
end Go.Proofs.Ytgbkhmoplocmkaa
