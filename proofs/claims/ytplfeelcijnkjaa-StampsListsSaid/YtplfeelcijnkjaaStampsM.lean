/- Plain laws of stamps: the order, and merging. No program in sight. -/
import Derived.Test.YtplfeelcijnkjaaStampsD
namespace Go.Proofs.Ytplfeelcijnkjaa
open Go.RowKit
set_option linter.unusedSimpArgs false
set_option linter.unusedVariables false

theorem cmpI_cases (a b : Int) : (cmpI a b = -1 ∧ a < b) ∨ (cmpI a b = 0 ∧ a = b) ∨ (cmpI a b = 1 ∧ b < a) := by
  unfold cmpI; (repeat' split) <;> omega

theorem cmpS_cases (a b : St) :
    (cmpS a b = -1 ∧ (a.time < b.time ∨ a.time = b.time ∧ (a.campus < b.campus ∨ a.campus = b.campus ∧ a.no < b.no))) ∨ (cmpS a b = 0 ∧ a.time = b.time ∧ a.campus = b.campus ∧ a.no = b.no) ∨
    (cmpS a b = 1 ∧ (b.time < a.time ∨ b.time = a.time ∧ (b.campus < a.campus ∨ b.campus = a.campus ∧ b.no < a.no))) := by
  have h1 := cmpI_cases a.time b.time
  have h2 := cmpI_cases a.campus b.campus
  have h3 := cmpI_cases a.no b.no
  have hv : cmpS a b = if cmpI a.time b.time = 0 then (if cmpI a.campus b.campus = 0 then (if cmpI a.no b.no = 0 then 0 else cmpI a.no b.no) else cmpI a.campus b.campus) else cmpI a.time b.time := by simp [cmpS, firstNZ]
  rw [hv]
  (repeat' split) <;> omega

theorem cmpS_zero {a b : St} : cmpS a b = 0 ↔ a = b := by
  have := cmpS_cases a b
  constructor
  · intro h
    obtain ⟨ta, ca, na⟩ := a
    obtain ⟨tb, cb, nb⟩ := b
    simp only at this
    have e1 : ta = tb := by omega
    have e2 : ca = cb := by omega
    have e3 : na = nb := by omega
    rw [e1, e2, e3]
  · rintro rfl
    omega
theorem cmpS_turn (a b : St) : cmpS b a = -cmpS a b := by
  have := cmpS_cases a b
  have := cmpS_cases b a
  omega
theorem cmpS_trans {a b c : St} (h1 : cmpS a b < 0) (h2 : cmpS b c < 0) : cmpS a c < 0 := by
  have := cmpS_cases a b
  have := cmpS_cases b c
  have := cmpS_cases a c
  omega
theorem cmpS_trans' {a b c : St} (h1 : cmpS a b ≤ 0) (h2 : cmpS b c ≤ 0) : cmpS a c ≤ 0 := by
  have := cmpS_cases a b
  have := cmpS_cases b c
  have := cmpS_cases a c
  omega

def ltS (a b : St) : Prop := cmpS a b < 0

/-- the stamps of two lists in order; those in both of them once -/
def mergeN : Nat → List St → List St → List St
  | 0, _, _ => []
  | n + 1, us, vs => match us, vs with
    | [], [] => []
    | a :: us, [] => a :: mergeN n us []
    | [], b :: vs => b :: mergeN n [] vs
    | a :: us, b :: vs => if cmpS a b < 0 then a :: mergeN n us (b :: vs) else if 0 < cmpS a b then b :: mergeN n (a :: us) vs else a :: mergeN n us vs

theorem mergeN_fuel : ∀ (n m : Nat) (us vs : List St), us.length + vs.length ≤ n → us.length + vs.length ≤ m → mergeN n us vs = mergeN m us vs
  | 0, 0, _, _, _, _ => rfl
  | 0, m + 1, us, vs, h, _ => by
    have e1 : us = [] := List.eq_nil_of_length_eq_zero (by omega)
    have e2 : vs = [] := List.eq_nil_of_length_eq_zero (by omega)
    subst e1 e2
    rfl
  | n + 1, 0, us, vs, _, h => by
    have e1 : us = [] := List.eq_nil_of_length_eq_zero (by omega)
    have e2 : vs = [] := List.eq_nil_of_length_eq_zero (by omega)
    subst e1 e2
    rfl
  | n + 1, m + 1, us, vs, h, k => by
    rcases us with _ | ⟨a, us⟩
    · rcases vs with _ | ⟨b, vs⟩
      · rfl
      · simp only [mergeN]
        rw [mergeN_fuel n m [] vs (by simp at h ⊢; omega) (by simp at k ⊢; omega)]
    · rcases vs with _ | ⟨b, vs⟩
      · simp only [mergeN]
        rw [mergeN_fuel n m us [] (by simp at h ⊢; omega) (by simp at k ⊢; omega)]
      · simp only [mergeN]
        rw [mergeN_fuel n m us (b :: vs) (by simp at h ⊢; omega) (by simp at k ⊢; omega), mergeN_fuel n m (a :: us) vs (by simp at h ⊢; omega) (by simp at k ⊢; omega), mergeN_fuel n m us vs (by simp at h ⊢; omega) (by simp at k ⊢; omega)]

def mergeL (us vs : List St) : List St := mergeN (us.length + vs.length) us vs
theorem mergeL_nil : mergeL [] [] = [] := rfl
theorem mergeL_left (a : St) (us : List St) : mergeL (a :: us) [] = a :: mergeL us [] := by
  show mergeN (us.length + 1 + 0) _ _ = _
  rfl
theorem mergeL_right (b : St) (vs : List St) : mergeL [] (b :: vs) = b :: mergeL [] vs := by
  unfold mergeL
  simp only [List.length_nil, List.length_cons, Nat.zero_add]
  rfl
theorem mergeL_lt {a b : St} {us vs : List St} (h : cmpS a b < 0) : mergeL (a :: us) (b :: vs) = a :: mergeL us (b :: vs) := by
  unfold mergeL
  have e : (a :: us).length + (b :: vs).length = us.length + (b :: vs).length + 1 := by simp; omega
  rw [e]
  simp only [mergeN, if_pos h]
theorem mergeL_gt {a b : St} {us vs : List St} (h : 0 < cmpS a b) : mergeL (a :: us) (b :: vs) = b :: mergeL (a :: us) vs := by
  unfold mergeL
  have e : (a :: us).length + (b :: vs).length = (a :: us).length + vs.length + 1 := by simp; omega
  rw [e]
  simp only [mergeN, if_neg (show ¬ cmpS a b < 0 by omega), if_pos h]
theorem mergeL_eq {a b : St} {us vs : List St} (h : cmpS a b = 0) : mergeL (a :: us) (b :: vs) = a :: mergeL us vs := by
  unfold mergeL
  have e : (a :: us).length + (b :: vs).length = us.length + vs.length + 1 + 1 := by simp; omega
  rw [e]
  have e2 := mergeN_fuel (us.length + vs.length + 1) (us.length + vs.length) us vs (by omega) (by omega)
  generalize us.length + vs.length + 1 = m at e2
  simp only [mergeN, if_neg (show ¬ cmpS a b < 0 by omega), if_neg (show ¬ 0 < cmpS a b by omega), e2]

theorem mergeL_ind (M : List St → List St → List St → Prop) (h0 : M [] [] []) (h1 : ∀ a us l, M us [] l → M (a :: us) [] (a :: l)) (h2 : ∀ b vs l, M [] vs l → M [] (b :: vs) (b :: l))
    (h3 : ∀ a b us vs l, cmpS a b < 0 → M us (b :: vs) l → M (a :: us) (b :: vs) (a :: l)) (h4 : ∀ a b us vs l, 0 < cmpS a b → M (a :: us) vs l → M (a :: us) (b :: vs) (b :: l))
    (h5 : ∀ a us vs l, M us vs l → M (a :: us) (a :: vs) (a :: l)) : ∀ (n : Nat) (us vs : List St), us.length + vs.length ≤ n → M us vs (mergeL us vs)
  | 0, us, vs, h => by
    have e1 : us = [] := List.eq_nil_of_length_eq_zero (by omega)
    have e2 : vs = [] := List.eq_nil_of_length_eq_zero (by omega)
    subst e1 e2
    exact h0
  | n + 1, us, vs, h => by
    have ih := mergeL_ind M h0 h1 h2 h3 h4 h5 n
    rcases us with _ | ⟨a, us⟩
    · rcases vs with _ | ⟨b, vs⟩
      · exact h0
      · rw [mergeL_right]; exact h2 _ _ _ (ih _ _ (by simp at h ⊢; omega))
    · rcases vs with _ | ⟨b, vs⟩
      · rw [mergeL_left]; exact h1 _ _ _ (ih _ _ (by simp at h ⊢; omega))
      · have hlt : cmpS a b < 0 ∨ 0 < cmpS a b ∨ cmpS a b = 0 := by omega
        rcases hlt with hc | hc | hc
        · rw [mergeL_lt hc]; exact h3 _ _ _ _ _ hc (ih _ _ (by simp at h ⊢; omega))
        · rw [mergeL_gt hc]; exact h4 _ _ _ _ _ hc (ih _ _ (by simp at h ⊢; omega))
        · rw [mergeL_eq hc]
          obtain rfl := cmpS_zero.1 hc
          exact h5 _ _ _ _ (ih _ _ (by simp at h ⊢; omega))

theorem mem_mergeL (us vs : List St) (s : St) : s ∈ mergeL us vs ↔ s ∈ us ∨ s ∈ vs :=
  mergeL_ind (fun us vs l => s ∈ l ↔ s ∈ us ∨ s ∈ vs) (by simp) (fun a us l h => by simp at h; simp [h]) (fun b vs l h => by simp at h; simp [h])
    (fun a b us vs l _ h => by simp only [List.mem_cons, h]; constructor <;> (intro h; simp only [or_assoc, or_left_comm] at h ⊢; exact h))
    (fun a b us vs l _ h => by simp only [List.mem_cons, h]; constructor <;> (intro h; simp only [or_assoc, or_left_comm] at h ⊢; exact h))
    (fun a us vs l h => by simp only [List.mem_cons, h]; by_cases hs : s = a <;> simp [hs]) _ us vs (Nat.le_refl _)

theorem length_mergeL (us vs : List St) : (mergeL us vs).length ≤ us.length + vs.length :=
  mergeL_ind (fun us vs l => l.length ≤ us.length + vs.length) (by simp) (fun a us l h => by simp at h ⊢; omega) (fun b vs l h => by simp at h ⊢; omega)
    (fun a b us vs l _ h => by simp at h ⊢; omega) (fun a b us vs l _ h => by simp at h ⊢; omega) (fun a us vs l h => by simp at h ⊢; omega) _ us vs (Nat.le_refl _)

theorem sorted_mergeL {us vs : List St} (hu : us.Pairwise ltS) (hv : vs.Pairwise ltS) : (mergeL us vs).Pairwise ltS := by
  have key := mergeL_ind (fun us vs l => us.Pairwise ltS → vs.Pairwise ltS → (∀ s, s ∈ l ↔ s ∈ us ∨ s ∈ vs) ∧ l.Pairwise ltS) (by simp)
    (fun a us l h hu hv => by
      obtain ⟨h1, h2⟩ := h (List.pairwise_cons.1 hu).2 hv
      refine ⟨fun s => by simp [h1], List.pairwise_cons.2 ⟨fun s hs => ?_, h2⟩⟩
      exact (List.pairwise_cons.1 hu).1 s (by simpa using (h1 s).1 hs))
    (fun b vs l h hu hv => by
      obtain ⟨h1, h2⟩ := h hu (List.pairwise_cons.1 hv).2
      refine ⟨fun s => by simp [h1], List.pairwise_cons.2 ⟨fun s hs => ?_, h2⟩⟩
      exact (List.pairwise_cons.1 hv).1 s (by simpa using (h1 s).1 hs))
    (fun a b us vs l hc h hu hv => by
      obtain ⟨h1, h2⟩ := h (List.pairwise_cons.1 hu).2 hv
      refine ⟨fun s => by simp only [List.mem_cons, h1, or_assoc], List.pairwise_cons.2 ⟨fun s hs => ?_, h2⟩⟩
      rcases (h1 s).1 hs with hs | hs
      · exact (List.pairwise_cons.1 hu).1 s hs
      · rcases List.mem_cons.1 hs with rfl | hs
        · exact hc
        · exact cmpS_trans hc ((List.pairwise_cons.1 hv).1 s hs))
    (fun a b us vs l hc h hu hv => by
      obtain ⟨h1, h2⟩ := h hu (List.pairwise_cons.1 hv).2
      refine ⟨fun s => by simp only [List.mem_cons, h1]; constructor <;> (intro h; simp only [or_assoc, or_left_comm] at h ⊢; exact h), List.pairwise_cons.2 ⟨fun s hs => ?_, h2⟩⟩
      have hba : cmpS b a < 0 := by rw [cmpS_turn]; omega
      rcases (h1 s).1 hs with hs | hs
      · rcases List.mem_cons.1 hs with rfl | hs
        · exact hba
        · exact cmpS_trans hba ((List.pairwise_cons.1 hu).1 s hs)
      · exact (List.pairwise_cons.1 hv).1 s hs)
    (fun a us vs l h hu hv => by
      obtain ⟨h1, h2⟩ := h (List.pairwise_cons.1 hu).2 (List.pairwise_cons.1 hv).2
      refine ⟨fun s => by simp only [List.mem_cons, h1]; by_cases hs : s = a <;> simp [hs], List.pairwise_cons.2 ⟨fun s hs => ?_, h2⟩⟩
      rcases (h1 s).1 hs with hs | hs
      · exact (List.pairwise_cons.1 hu).1 s hs
      · exact (List.pairwise_cons.1 hv).1 s hs) _ us vs (Nat.le_refl _)
  exact (key hu hv).2

theorem ltS_irrefl (a : St) : ¬ ltS a a := by
  have := (cmpS_zero (a := a) (b := a)).2 rfl
  unfold ltS; omega
theorem sorted_ext : ∀ {us vs : List St}, us.Pairwise ltS → vs.Pairwise ltS → (∀ s, s ∈ us ↔ s ∈ vs) → us = vs
  | [], [], _, _, _ => rfl
  | [], b :: vs, _, _, h => by have := (h b).2 (by simp); simp at this
  | a :: us, [], _, _, h => by have := (h a).1 (by simp); simp at this
  | a :: us, b :: vs, hu, hv, h => by
    obtain ⟨hu1, hu2⟩ := List.pairwise_cons.1 hu
    obtain ⟨hv1, hv2⟩ := List.pairwise_cons.1 hv
    have e : a = b := by
      rcases List.mem_cons.1 ((h a).1 (by simp)) with e | e
      · exact e
      · rcases List.mem_cons.1 ((h b).2 (by simp)) with e' | e'
        · exact e'.symm
        · exact absurd (cmpS_trans (hu1 b e') (hv1 a e)) (ltS_irrefl a)
    subst e
    rw [sorted_ext hu2 hv2 (fun s => ?_)]
    constructor
    · intro hs
      rcases List.mem_cons.1 ((h s).1 (by simp [hs])) with e | e
      · subst e; exact absurd (hu1 _ hs) (ltS_irrefl _)
      · exact e
    · intro hs
      rcases List.mem_cons.1 ((h s).2 (by simp [hs])) with e | e
      · subst e; exact absurd (hv1 _ hs) (ltS_irrefl _)
      · exact e

theorem pairwise_of_chain : ∀ {xs : List St}, (∀ i x y, xs[i]? = some x → xs[i + 1]? = some y → ltS x y) → xs.Pairwise ltS
  | [], _ => .nil
  | [x], _ => by simp
  | x :: y :: xs, h => by
    have ih : (y :: xs).Pairwise ltS := pairwise_of_chain (fun i a b ha hb => h (i + 1) a b (by simpa using ha) (by simpa using hb))
    have hxy : ltS x y := h 0 x y rfl rfl
    refine List.pairwise_cons.2 ⟨fun s hs => ?_, ih⟩
    rcases List.mem_cons.1 hs with rfl | hs
    · exact hxy
    · exact cmpS_trans hxy ((List.pairwise_cons.1 ih).1 s hs)

theorem validS_iff {xs : List St} : validS xs = true ↔ (∀ s ∈ xs, s.good = true) ∧ xs.Pairwise ltS := by
  constructor
  · intro h
    have hb : ∀ i, i < xs.length → badAt xs i = false := fun i hi => by
      unfold validS at h
      cases hc : badAt xs i
      · rfl
      · rw [List.any_eq_true.2 ⟨i, by simpa using hi, hc⟩] at h
        cases h
    refine ⟨fun s hs => ?_, pairwise_of_chain (fun i x y hx hy => ?_)⟩
    · obtain ⟨i, hi, rfl⟩ := List.getElem_of_mem hs
      have := hb i hi
      unfold badAt at this
      rw [List.getElem?_eq_getElem hi] at this
      simp at this
      exact this.1
    · have hi := (List.getElem?_eq_some_iff.1 hy).1
      have := hb (i + 1) hi
      unfold badAt at this
      rw [hy] at this
      simp only [hx] at this
      simp at this
      exact this.2
  · rintro ⟨hg, hp⟩
    refine valid_of (fun i hi => ?_)
    unfold badAt
    rw [List.getElem?_eq_getElem hi]
    have h1 := hg xs[i] (List.getElem_mem hi)
    rcases i with _ | i
    · simp [h1]
    · have hi' : i < xs.length := by omega
      simp only [List.getElem?_eq_getElem hi', h1]
      have := List.pairwise_iff_getElem.1 hp i (i + 1) hi' hi (by omega)
      unfold ltS at this
      simp; omega

theorem valid_mergeL {us vs : List St} (hu : validS us = true) (hv : validS vs = true) : validS (mergeL us vs) = true := by
  obtain ⟨gu, pu⟩ := validS_iff.1 hu
  obtain ⟨gv, pv⟩ := validS_iff.1 hv
  refine validS_iff.2 ⟨fun s hs => ?_, sorted_mergeL pu pv⟩
  rcases (mem_mergeL us vs s).1 hs with h | h
  · exact gu s h
  · exact gv s h
theorem merge_comm {us vs : List St} (hu : validS us = true) (hv : validS vs = true) : mergeL us vs = mergeL vs us :=
  sorted_ext (sorted_mergeL (validS_iff.1 hu).2 (validS_iff.1 hv).2) (sorted_mergeL (validS_iff.1 hv).2 (validS_iff.1 hu).2) (fun s => by rw [mem_mergeL, mem_mergeL]; exact or_comm)
theorem merge_assoc {us vs ws : List St} (hu : validS us = true) (hv : validS vs = true) (hw : validS ws = true) : mergeL (mergeL us vs) ws = mergeL us (mergeL vs ws) :=
  sorted_ext (sorted_mergeL (sorted_mergeL (validS_iff.1 hu).2 (validS_iff.1 hv).2) (validS_iff.1 hw).2) (sorted_mergeL (validS_iff.1 hu).2 (sorted_mergeL (validS_iff.1 hv).2 (validS_iff.1 hw).2)) (fun s => by simp only [mem_mergeL, or_assoc])
theorem merge_self {us : List St} (hu : validS us = true) : mergeL us us = us :=
  sorted_ext (sorted_mergeL (validS_iff.1 hu).2 (validS_iff.1 hu).2) (validS_iff.1 hu).2 (fun s => by rw [mem_mergeL]; exact or_self_iff)
end Go.Proofs.Ytplfeelcijnkjaa
