/- Missing and its reference. -/
import Derived.Test.YtgimpbcdgfkdmaaProD
import Derived.Test.YtgimpbcdgfkdmaaInts
import Derived.BigRegion
namespace Go.Proofs.Ytgimpbcdgfkdmaa
open Go.RowKit Go.Shelf
set_option linter.unusedSimpArgs false
set_option linter.unusedVariables false

/-- a use -/
structure Us where
  att : Int
  req : Int
  credits : Int
  deriving DecidableEq
instance : Inhabited Us := ⟨⟨0, 0, 0⟩⟩
def Us.enc (u : Us) : List Value := [.int .i64 u.att, .int .i64 u.req, .int .i64 u.credits]
def Us.v (u : Us) : Value := .agg #[.int .i64 u.att, .int .i64 u.req, .int .i64 u.credits]
theorem Us.enc_len (u : Us) : u.enc.length = 3 := rfl
theorem Us.enc_one (u : Us) : ∀ x ∈ u.enc, x.oneCell' = true := by
  intro x hx
  simp [Us.enc] at hx
  rcases hx with rfl | rfl | rfl <;> rfl
/-- the credits used for a requirement, of an attempt, in all -/
def usR (k : Int) : List Us → Int
  | [] => 0
  | u :: l => (if u.req = k then u.credits else 0) + usR k l
def usA (k : Int) : List Us → Int
  | [] => 0
  | u :: l => (if u.att = k then u.credits else 0) + usA k l
def usT : List Us → Int
  | [] => 0
  | u :: l => u.credits + usT l
theorem usR_snoc (k : Int) (u : Us) : ∀ l, usR k (l ++ [u]) = usR k l + (if u.req = k then u.credits else 0)
  | [] => by simp [usR]
  | y :: l => by simp only [List.cons_append, usR, usR_snoc k u l]; omega
theorem usA_snoc (k : Int) (u : Us) : ∀ l, usA k (l ++ [u]) = usA k l + (if u.att = k then u.credits else 0)
  | [] => by simp [usA]
  | y :: l => by simp only [List.cons_append, usA, usA_snoc k u l]; omega
theorem usT_snoc (u : Us) : ∀ l, usT (l ++ [u]) = usT l + u.credits
  | [] => by simp [usT]
  | y :: l => by simp only [List.cons_append, usT, usT_snoc u l]; omega
/-- may the use stand behind others? -/
def okM (qs : List Rq) (pre : List Us) (u : Us) : Bool :=
  decide (0 ≤ u.req) && (decide (u.req < (qs.length : Int)) && (decide (1 ≤ u.credits) && decide (u.credits ≤ (qs.getD u.req.toNat default).credits - usR u.req pre)))
def okMgo (qs : List Rq) : List Us → List Us → Bool
  | _, [] => true
  | pre, u :: l => okM qs pre u && okMgo qs (pre ++ [u]) l
theorem okM_iff (qs : List Rq) (pre : List Us) (u : Us) : okM qs pre u = true ↔ 0 ≤ u.req ∧ u.req < (qs.length : Int) ∧ 1 ≤ u.credits ∧ u.credits ≤ (qs.getD u.req.toNat default).credits - usR u.req pre := by
  simp only [okM, Bool.and_eq_true, decide_eq_true_eq]
/-- Missing -/
def missP (p : Pg) (us : List Us) : Int × Int := if checkP p = 0 then (if okMgo p.reqs [] us then (totR p.reqs - usT us, 0) else (0, 200)) else (0, checkP p)
/-- what is left of each requirement -/
def restR (qs : List Rq) (pre : List Us) : List Int := (List.range qs.length).map fun k => (qs.getD k default).credits - usR k pre
theorem restR_len (qs : List Rq) (pre : List Us) : (restR qs pre).length = qs.length := by simp [restR]
theorem restR_at (qs : List Rq) (pre : List Us) {k : Nat} (h : k < qs.length) : (restR qs pre).getD k 0 = (qs.getD k default).credits - usR k pre := by
  simp [restR, List.getD_eq_getElem?_getD, List.getElem?_range h]
theorem list_ext_getD {xs ys : List Int} (hl : xs.length = ys.length) (h : ∀ k, k < xs.length → xs.getD k 0 = ys.getD k 0) : xs = ys := by
  apply List.ext_getElem hl
  intro i h1 h2
  have := h i h1
  simpa [List.getD_eq_getElem?_getD, List.getElem?_eq_getElem h1, List.getElem?_eq_getElem h2] using this
theorem restR_set (qs : List Rq) (pre : List Us) (u : Us) {k : Nat} (hk : u.req = k) (h : k < qs.length) : (restR qs pre).set k ((qs.getD k default).credits - usR k pre - u.credits) = restR qs (pre ++ [u]) := by
  refine list_ext_getD (by simp [restR_len]) (fun j hj => ?_)
  rw [List.length_set, restR_len] at hj
  rw [getD_set _ _ _ _ (by rw [restR_len]; exact h), restR_at qs pre hj, restR_at qs (pre ++ [u]) hj, usR_snoc]
  by_cases e : k = j
  · subst e; rw [if_pos rfl, if_pos hk]; omega
  · rw [if_neg e, if_neg (by omega)]; omega
/-- the rest's beginning -/
def fillR (qs : List Rq) (k : Nat) : List Int := (List.range qs.length).map fun j => if j < k then (qs.getD j default).credits else 0
theorem fillR_len (qs : List Rq) (k : Nat) : (fillR qs k).length = qs.length := by simp [fillR]
theorem fillR_zero (qs : List Rq) : fillR qs 0 = List.replicate qs.length 0 := by
  refine list_ext_getD (by simp [fillR]) (fun j hj => ?_)
  rw [fillR_len] at hj
  simp [fillR, List.getD_eq_getElem?_getD, List.getElem?_range hj, List.getElem?_replicate, hj]
theorem fillR_set (qs : List Rq) {k : Nat} {q : Rq} (h : qs[k]? = some q) : (fillR qs k).set k q.credits = fillR qs (k + 1) := by
  have hk := (List.getElem?_eq_some_iff.1 h).1
  refine list_ext_getD (by simp [fillR_len]) (fun j hj => ?_)
  rw [List.length_set, fillR_len] at hj
  rw [getD_set _ _ _ _ (by rw [fillR_len]; exact hk)]
  simp only [fillR, List.getD_eq_getElem?_getD, List.getElem?_map, List.getElem?_range hj, Option.map_some, Option.getD_some]
  by_cases e : k = j
  · subst e; rw [if_pos rfl, if_pos (by omega), h]; rfl
  · rw [if_neg e]; by_cases e2 : j < k
    · rw [if_pos e2, if_pos (by omega)]
    · rw [if_neg e2, if_neg (by omega)]
theorem fillR_all (qs : List Rq) : fillR qs qs.length = restR qs [] := by
  refine list_ext_getD (by simp [fillR_len, restR_len]) (fun j hj => ?_)
  rw [fillR_len] at hj
  rw [restR_at _ _ hj]
  simp [fillR, List.getD_eq_getElem?_getD, List.getElem?_range hj, usR, hj]
/-- the uses' credits as a sum over the requirements -/
def sumL : List Int → Int
  | [] => 0
  | x :: l => x + sumL l
theorem sumL_snoc (x : Int) : ∀ l, sumL (l ++ [x]) = sumL l + x
  | [] => by simp [sumL]
  | y :: l => by simp only [List.cons_append, sumL, sumL_snoc x l]; omega
theorem sumL_set : ∀ (l : List Int) (k : Nat) (v : Int), k < l.length → sumL (l.set k v) = sumL l - l.getD k 0 + v
  | [], k, v, h => by simp at h
  | x :: l, 0, v, h => by simp only [List.set_cons_zero, sumL, List.getD_cons_zero]; omega
  | x :: l, k + 1, v, h => by simp only [List.set_cons_succ, sumL, List.getD_cons_succ, sumL_set l k v (by simpa using h)]; omega
theorem fill_total : ∀ qs : List Rq, sumL ((List.range qs.length).map fun k => (qs.getD k default).credits) = totR qs := by
  intro qs
  have e : ((List.range qs.length).map fun k => (qs.getD k default).credits) = qs.map Rq.credits := by
    apply List.ext_getElem (by simp)
    intro i h1 h2
    simp at h1 h2 ⊢
    simp [h2]
  rw [e]
  clear e
  induction qs with
  | nil => rfl
  | cons q l ih => simp only [List.map_cons, sumL, totR, ih]
theorem rest_total (qs : List Rq) : ∀ (us pre : List Us), okMgo qs pre us = true → sumL (restR qs (pre ++ us)) = sumL (restR qs pre) - usT us
  | [], pre, _ => by simp [usT]
  | u :: l, pre, h => by
    simp only [okMgo, Bool.and_eq_true] at h
    obtain ⟨h1, h2⟩ := h
    obtain ⟨a, b, c, d⟩ := (okM_iff _ _ _).1 h1
    obtain ⟨k, hk⟩ : ∃ k : Nat, u.req = k := ⟨u.req.toNat, by omega⟩
    have hkl : k < qs.length := by omega
    have := rest_total qs l (pre ++ [u]) h2
    rw [List.append_assoc] at this
    rw [show pre ++ u :: l = pre ++ ([u] ++ l) from rfl, this, ← restR_set qs pre u hk hkl, sumL_set _ _ _ (by rw [restR_len]; exact hkl), restR_at _ _ hkl]
    simp only [usT]
    omega
theorem rest_nil_total (qs : List Rq) : sumL (restR qs []) = totR qs := by rw [← fill_total]; simp [restR, usR]
/-- no rest is negative -/
theorem rest_pos (qs : List Rq) (hq : ∀ q ∈ qs, 1 ≤ q.credits) : ∀ (pre us : List Us), okMgo qs pre us = true → (∀ k : Nat, k < qs.length → 0 ≤ (qs.getD k default).credits - usR k pre) → ∀ k : Nat, k < qs.length → 0 ≤ (qs.getD k default).credits - usR k (pre ++ us)
  | pre, [], _, h => by simpa using h
  | pre, u :: l, h, h0 => by
    simp only [okMgo, Bool.and_eq_true] at h
    obtain ⟨h1, h2⟩ := h
    obtain ⟨a, b, c, d⟩ := (okM_iff _ _ _).1 h1
    have := rest_pos qs hq (pre ++ [u]) l h2 (fun k hk => by
      rw [usR_snoc]
      have := h0 k hk
      by_cases e : u.req = k
      · rw [if_pos e]; rw [e] at d; simp at d; simp; omega
      · rw [if_neg e]; omega)
    rwa [List.append_assoc] at this
theorem okMgo_split (qs : List Rq) : ∀ (a b pre : List Us), okMgo qs pre (a ++ b) = (okMgo qs pre a && okMgo qs (pre ++ a) b)
  | [], b, pre => by simp [okMgo]
  | u :: a, b, pre => by simp only [List.cons_append, okMgo, okMgo_split qs a b (pre ++ [u]), List.append_assoc, Bool.and_assoc, List.nil_append]
theorem take_drop_at {α : Type} {xs : List α} {k : Nat} {x : α} (h : xs[k]? = some x) : xs.drop k = x :: xs.drop (k + 1) := by
  have hl := (List.getElem?_eq_some_iff.1 h).1
  rw [List.drop_eq_getElem_cons hl, (List.getElem?_eq_some_iff.1 h).2]
theorem sumL_le : ∀ (l : List Int) (c : Int), (∀ x ∈ l, 0 ≤ x ∧ x ≤ c) → 0 ≤ sumL l ∧ sumL l ≤ c * (l.length : Int)
  | [], c, _ => by simp [sumL]
  | x :: l, c, h => by
    obtain ⟨a, b⟩ := sumL_le l c (fun y hy => h y (List.mem_cons_of_mem _ hy))
    have := h x (List.mem_cons_self ..)
    have e : c * ((x :: l).length : Int) = c * l.length + c := by simp [Int.mul_add]
    rw [e]
    simp only [sumL]
    omega
theorem usR_nonneg (k : Int) : ∀ l : List Us, (∀ u ∈ l, 1 ≤ u.credits) → 0 ≤ usR k l
  | [], _ => by simp [usR]
  | u :: l, h => by
    have h1 := usR_nonneg k l (fun v hv => h v (List.mem_cons_of_mem _ hv))
    have h2 := h u (List.mem_cons_self ..)
    simp only [usR]; split <;> omega
theorem okMgo_credits (qs : List Rq) : ∀ (us pre : List Us), okMgo qs pre us = true → ∀ u ∈ us, 1 ≤ u.credits
  | [], _, _ => by simp
  | u :: l, pre, h => by
    simp only [okMgo, Bool.and_eq_true] at h
    intro v hv
    rcases List.mem_cons.1 hv with rfl | hv
    · exact ((okM_iff _ _ _).1 h.1).2.2.1
    · exact okMgo_credits qs l _ h.2 v hv
/-- the numbers of the rest stay small -/
theorem rest_bd {qs : List Rq} (hq : ∀ q ∈ qs, 1 ≤ q.credits ∧ q.credits ≤ 10000) {pre : List Us} (h : okMgo qs [] pre = true) {k : Nat} (hk : k < qs.length) : 0 ≤ (qs.getD k default).credits - usR k pre ∧ (qs.getD k default).credits - usR k pre ≤ 10000 ∧ 0 ≤ usR k pre ∧ (qs.getD k default).credits ≤ 10000 := by
  have h1 := rest_pos qs (fun q hq' => (hq q hq').1) [] pre h (fun j hj => by
    have := hq _ (List.getElem_mem hj)
    simp [usR, List.getD_eq_getElem?_getD, List.getElem?_eq_getElem hj]; omega) k hk
  have h2 := usR_nonneg k pre (okMgo_credits qs pre [] h)
  have h3 : (qs.getD k default).credits ≤ 10000 := by
    have := hq _ (List.getElem_mem hk)
    simp [List.getD_eq_getElem?_getD, List.getElem?_eq_getElem hk]; omega
  simp only [List.nil_append] at h1
  omega
end Go.Proofs.Ytgimpbcdgfkdmaa
