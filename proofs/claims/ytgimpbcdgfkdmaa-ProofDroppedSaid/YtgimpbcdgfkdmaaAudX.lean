/- Plain laws of ProofUnique, ProofMore and ProofDropped. -/
import Derived.Test.YtgimpbcdgfkdmaaAudQ
namespace Go.Proofs.Ytgimpbcdgfkdmaa
set_option linter.unusedSimpArgs false
set_option linter.unusedVariables false

theorem audit_asked {p : Pg} {l : List At} (h : askedE p l ≠ 0) : auditE p l [] 0 [] = askedE p l := by
  have e : allowP p l [] = askedE p l := by unfold allowP; rw [if_neg h]
  unfold auditE
  rw [e, if_neg h]
theorem audit_parts {p : Pg} {l : List At} {us : List Us} {M : Int} {cs : List Bool} (h : auditE p l us M cs = 0) : allowP p l us = 0 ∧ totR p.reqs - usT us = M ∧ boundP p l cs = (M, 0) := by
  unfold auditE at h
  split at h
  · rename_i h1
    split at h
    · rename_i h2
      split at h
      · rename_i h3
        split at h
        · rename_i h4
          exact ⟨h1, h2, Prod.ext h4 h3⟩
        · simp at h
      · contradiction
    · simp at h
  · contradiction
theorem audit_other {p : Pg} {l : List At} {us : List Us} {M : Int} {cs : List Bool} (h : auditE p l us M cs = 0) {o : Int} (ho : o ≠ M) : auditE p l us o cs = 200 := by
  obtain ⟨h1, h2, _⟩ := audit_parts h
  unfold auditE
  rw [if_pos h1, if_neg (by omega)]
theorem audit_unique {p : Pg} {l : List At} {us vs : List Us} {M N : Int} {cs ds : List Bool} (h : auditE p l us M cs = 0) (k : auditE p l vs N ds = 0) : M = N := by
  obtain ⟨h1, h2, _⟩ := audit_parts h
  obtain ⟨k1, k2, _⟩ := audit_parts k
  have e1 := optimal_law h k1
  have e2 := optimal_law k h1
  omega
theorem audit_askd {p : Pg} {l : List At} {us : List Us} {M : Int} {cs : List Bool} (h : auditE p l us M cs = 0) : askedE p l = 0 := (allow_zero (audit_parts h).1).2.2.2
theorem allow_of {p : Pg} {l : List At} {us : List Us} (h0 : askedE p l = 0) (h : UOk p l us) : allowP p l us = 0 := by
  unfold allowP
  rw [if_pos h0, if_pos (okAgo_of h us [] rfl)]
theorem uok_allow {p : Pg} {l : List At} {us : List Us} (h : allowP p l us = 0) : UOk p l us := by
  obtain ⟨h1, h2, h3, _⟩ := allow_zero h
  exact uok_of h1 h2 h3
/-- an assignment stays one where an attempt is added -/
theorem UOk.more {p : Pg} {l : List At} {us : List Us} (h : UOk p l us) (x : At) : UOk p (l ++ [x]) us := by
  have hg : ∀ u ∈ us, (l ++ [x]).getD u.att.toNat default = l.getD u.att.toNat default := fun u hu => by
    have := (h.one u hu).1
    rw [List.getD_eq_getElem?_getD, List.getD_eq_getElem?_getD, List.getElem?_append_left (by omega)]
  refine ⟨fun u hu => ?_, h.ord, fun u hu => ?_, h.req⟩
  · rw [hg u hu]
    obtain ⟨h1, h2, h3, h4⟩ := h.one u hu
    exact ⟨⟨h1.1, by simp; omega⟩, h2, h3, h4⟩
  · rw [hg u hu]
    exact h.att u hu
/-- and without the uses of the last attempt it is one of the others -/
theorem UOk.less {p : Pg} {l : List At} {x : At} {us : List Us} (h : UOk p (l ++ [x]) us) : UOk p l (us.filter (fun u => decide (u.att < (l.length : Int)))) := by
  have hs := h.sub (List.filter_sublist (p := fun u => decide (u.att < (l.length : Int))) (l := us))
  have hg : ∀ u ∈ us.filter (fun u => decide (u.att < (l.length : Int))), (l ++ [x]).getD u.att.toNat default = l.getD u.att.toNat default := fun u hu => by
    have h1 := (hs.one u hu).1
    have h2 := (List.mem_filter.1 hu).2
    simp at h2
    rw [List.getD_eq_getElem?_getD, List.getD_eq_getElem?_getD, List.getElem?_append_left (by omega)]
  refine ⟨fun u hu => ?_, hs.ord, fun u hu => ?_, hs.req⟩
  · obtain ⟨h1, h2, h3, h4⟩ := hs.one u hu
    rw [hg u hu] at h3 h4
    have h5 := (List.mem_filter.1 hu).2
    simp at h5
    exact ⟨⟨h1.1, h5⟩, h2, h3, h4⟩
  · rw [← hg u hu]
    exact hs.att u hu
theorem usT_split (n : Int) : ∀ us : List Us, (∀ u ∈ us, u.att ≤ n) → usT us = usT (us.filter (fun u => decide (u.att < n))) + usA n us
  | [], _ => by simp [usT, usA]
  | u :: us, h => by
    have ih := usT_split n us (fun v hv => h v (List.mem_cons_of_mem _ hv))
    have hu := h u (List.mem_cons_self ..)
    simp only [usT, usA]
    by_cases e : u.att < n
    · rw [List.filter_cons_of_pos (by simpa using e), if_neg (by omega)]
      simp only [usT]
      omega
    · rw [List.filter_cons_of_neg (by simpa using e), if_pos (by omega)]
      omega
theorem usA_none {n : Int} : ∀ {us : List Us}, (∀ u ∈ us, u.att ≠ n) → usA n us = 0
  | [], _ => rfl
  | u :: us, h => by
    simp only [usA]
    rw [if_neg (h u (List.mem_cons_self ..)), usA_none (fun v hv => h v (List.mem_cons_of_mem _ hv))]
    rfl
theorem more_law {p : Pg} {l : List At} {x : At} {us vs : List Us} {M N : Int} {cs ds : List Bool} (h : auditE p l us M cs = 0) (k : auditE p (l ++ [x]) vs N ds = 0) :
    N ≤ M ∧ M - N ≤ x.credits * p.uses ∧ allowP p (l ++ [x]) us = 0 := by
  obtain ⟨h1, h2, _⟩ := audit_parts h
  obtain ⟨k1, k2, _⟩ := audit_parts k
  have hu := uok_allow h1
  have hv := uok_allow k1
  have ha : allowP p (l ++ [x]) us = 0 := allow_of (audit_askd k) (hu.more x)
  have e1 := optimal_law k ha
  have hl : allowP p l (vs.filter (fun u => decide (u.att < (l.length : Int)))) = 0 := allow_of (audit_askd h) hv.less
  have e2 := optimal_law h hl
  have e3 := usT_split (l.length : Int) vs (fun u hu => by have := (hv.one u hu).1.2; simp at this; omega)
  have e4 : usA (l.length : Int) vs ≤ x.credits * p.uses := by
    by_cases hx : ∃ u ∈ vs, u.att = (l.length : Int)
    · obtain ⟨u, hu, e⟩ := hx
      have := hv.att u hu
      rw [e, Int.toNat_natCast, List.getD_eq_getElem?_getD, List.getElem?_append_right (Nat.le_refl _)] at this
      simpa using this
    · rw [usA_none (fun u hu e => hx ⟨u, hu, e⟩)]
      obtain ⟨hg, hga, _⟩ := allow_zero k1
      obtain ⟨_, _, hu1, hu4⟩ := good_credits hg
      have hgx := good_at (hga x (by simp))
      exact (mul_bd hgx.2.2.1 hgx.2.2.2.1 hu1 hu4).1
  exact ⟨by omega, by omega, ha⟩
theorem usT_erase : ∀ (us : List Us) (i : Nat) (u : Us), us[i]? = some u → usT (us.take i ++ us.drop (i + 1)) = usT us - u.credits
  | [], i, u, h => by simp at h
  | v :: us, 0, u, h => by
    simp at h
    subst h
    simp [usT]
    omega
  | v :: us, i + 1, u, h => by
    have := usT_erase us i u (by simpa using h)
    simp only [List.take_succ_cons, List.cons_append, List.drop_succ_cons, usT, this]
    omega
theorem usT_pos : ∀ us : List Us, (∀ u ∈ us, 1 ≤ u.credits) → 0 ≤ usT us
  | [], _ => by simp [usT]
  | u :: us, h => by
    have h1 := usT_pos us (fun v hv => h v (List.mem_cons_of_mem _ hv))
    have h2 := h u (List.mem_cons_self ..)
    simp only [usT]; omega
theorem erase_sub {α : Type} (us : List α) (i : Nat) : (us.take i ++ us.drop (i + 1)).Sublist us := by
  have h : (us.take i ++ us.drop (i + 1)).Sublist (us.take i ++ us.drop i) := List.Sublist.append (List.Sublist.refl _) (by
    rw [← List.drop_drop]
    exact List.drop_sublist 1 _)
  rwa [List.take_append_drop] at h
theorem dropped_law {p : Pg} {l : List At} {us : List Us} {M : Int} {cs : List Bool} (h : auditE p l us M cs = 0) {i : Nat} {u : Us} (hi : us[i]? = some u) :
    allowP p l (us.take i ++ us.drop (i + 1)) = 0 ∧ missP p (us.take i ++ us.drop (i + 1)) = (M + u.credits, 0) ∧ auditE p l (us.take i ++ us.drop (i + 1)) (M + u.credits) cs = 200 ∧ 1 ≤ u.credits ∧ u.credits ≤ 60 ∧ 0 ≤ M ∧ M ≤ 640000 := by
  obtain ⟨h1, h2, h3⟩ := audit_parts h
  have hu := uok_allow h1
  have ha : allowP p l (us.take i ++ us.drop (i + 1)) = 0 := allow_of (audit_askd h) (hu.sub (erase_sub us i))
  have ht := usT_erase us i u hi
  have hm := miss_of_allow ha
  obtain ⟨hg, hga, _⟩ := allow_zero h1
  obtain ⟨hcr, hlr, _, _⟩ := good_credits hg
  have hone := hu.one u (List.mem_of_getElem? hi)
  have hc60 : u.credits ≤ 60 := by
    have h5 := hone.2.2.1.2
    have h6 := good_at (hga _ (List.getElem_mem (show u.att.toNat < l.length by have := hone.1; omega)))
    rw [List.getD_eq_getElem?_getD, List.getElem?_eq_getElem (show u.att.toNat < l.length by have := hone.1; omega)] at h5
    simp only [Option.getD_some] at h5
    omega
  have hM0 := miss_nonneg h1
  have hT := totR_bd p.reqs hcr
  have hp := usT_pos us (fun v hv => (hu.one v hv).2.2.1.1)
  have e1 : totR p.reqs - usT (us.take i ++ us.drop (i + 1)) = M + u.credits := by omega
  rw [e1] at hm
  refine ⟨ha, hm, ?_, hone.2.2.1.1, hc60, by omega, by omega⟩
  unfold auditE
  rw [if_pos ha, if_pos e1, if_pos (by rw [h3]), if_neg (by rw [h3]; simp only; have := hone.2.2.1.1; omega)]
end Go.Proofs.Ytgimpbcdgfkdmaa
