/- Plain law of Audit: a maximal flow of the network is a best assignment, and the cut proves it. -/
import Derived.Test.YtgimpbcdgfkdmaaAudD
import Derived.Test.YtgimpbcdgfkdmaaProW
namespace Go.Proofs.Ytgimpbcdgfkdmaa
set_option linter.unusedSimpArgs false
set_option linter.unusedVariables false

/-- the uses that a flow along the pairs says -/
def usL : List (Nat × Nat) → List Int → List Us
  | x :: ps, y :: ys => (if 0 < y then [⟨x.1, x.2, y⟩] else []) ++ usL ps ys
  | _, _ => []
theorem usL_snoc : ∀ (ps : List (Nat × Nat)) (x : Nat × Nat) (ys : List Int), ps.length < ys.length → usL (ps ++ [x]) ys = usL ps ys ++ (if 0 < ys.getD ps.length 0 then [⟨x.1, x.2, ys.getD ps.length 0⟩] else [])
  | [], x, y :: ys, _ => by simp [usL]
  | [], x, [], h => by simp at h
  | p :: ps, x, [], h => by simp at h
  | p :: ps, x, y :: ys, h => by
    simp only [List.cons_append, usL, usL_snoc ps x ys (by simpa using h), List.append_assoc, List.length_cons, List.getD_cons_succ]
theorem usL_len : ∀ (ps : List (Nat × Nat)) (ys : List Int), (usL ps ys).length ≤ ps.length
  | [], ys => by simp [usL]
  | p :: ps, [] => by simp [usL]
  | p :: ps, y :: ys => by
    have := usL_len ps ys
    simp only [usL, List.length_append, List.length_cons]
    split <;> simp <;> omega
theorem outE_app : ∀ (l1 : List Fl.Ed) (x1 : List Int) (l2 : List Fl.Ed) (x2 : List Int) (v : Int), x1.length = l1.length → Fl.outE (l1 ++ l2) (x1 ++ x2) v = Fl.outE l1 x1 v + Fl.outE l2 x2 v
  | [], [], l2, x2, v, _ => by simp [Fl.outE]
  | [], _ :: _, _, _, _, h => by simp at h
  | _ :: _, [], _, _, _, h => by simp at h
  | e :: l1, x :: x1, l2, x2, v, h => by
    simp only [List.cons_append, Fl.outE, outE_app l1 x1 l2 x2 v (by simpa using h)]
    omega
theorem cutE_app : ∀ (l1 l2 : List Fl.Ed) (c : Int → Bool), Fl.cutE (l1 ++ l2) c = Fl.cutE l1 c + Fl.cutE l2 c
  | [], l2, c => by simp [Fl.cutE]
  | e :: l1, l2, c => by simp only [List.cons_append, Fl.cutE, cutE_app l1 l2 c]; omega
theorem bd_len : ∀ (l : List Fl.Ed) (xs : List Int), Fl.Bd l xs → xs.length = l.length
  | [], [], _ => rfl
  | [], _ :: _, h => h.elim
  | _ :: _, [], h => h.elim
  | e :: l, x :: xs, ⟨_, _, h⟩ => by simp [bd_len l xs h]
theorem bd_app : ∀ (l1 : List Fl.Ed) (x1 : List Int) (l2 : List Fl.Ed) (x2 : List Int), x1.length = l1.length → Fl.Bd (l1 ++ l2) (x1 ++ x2) → Fl.Bd l1 x1 ∧ Fl.Bd l2 x2
  | [], [], l2, x2, _, h => ⟨trivial, h⟩
  | [], _ :: _, _, _, h, _ => by simp at h
  | _ :: _, [], _, _, h, _ => by simp at h
  | e :: l1, x :: x1, l2, x2, h, ⟨h1, h2, h3⟩ => by
    obtain ⟨k1, k2⟩ := bd_app l1 x1 l2 x2 (by simpa using h) h3
    exact ⟨⟨h1, h2, k1⟩, k2⟩
theorem split_last {xs : List Int} {n : Nat} (h : xs.length = n + 1) : xs = xs.take n ++ [xs.getD n 0] := by
  have e := List.take_append_drop n xs
  have : xs.drop n = [xs.getD n 0] := by
    rw [List.drop_eq_getElem_cons (by omega), List.drop_eq_nil_of_le (by omega), List.getD_eq_getElem?_getD, List.getElem?_eq_getElem (by omega)]
    rfl
  rw [this] at e
  exact e.symm
theorem take_getD {xs : List Int} {n i : Nat} (h : i < n) : (xs.take n).getD i 0 = xs.getD i 0 := by
  rw [List.getD_eq_getElem?_getD, List.getD_eq_getElem?_getD, List.getElem?_take, if_pos h]
theorem outE_range (f : Nat → Fl.Ed) (v : Int) : ∀ (n : Nat) (xs : List Int), xs.length = n → Fl.outE ((List.range n).map f) xs v = sumN n (fun i => (if (f i).f = v then xs.getD i 0 else 0) - (if (f i).t = v then xs.getD i 0 else 0))
  | 0, xs, h => by
    have : xs = [] := List.length_eq_zero_iff.1 h
    subst this
    simp [Fl.outE, sumN]
  | n + 1, xs, h => by
    rw [split_last h, map_range_snoc, outE_app _ _ _ _ _ (by simp; omega), outE_range f v n (xs.take n) (by simp; omega)]
    rw [← split_last h]
    simp only [sumN, Fl.outE]
    rw [sumN_congr (fun i hi => by rw [take_getD hi])]
    omega
theorem cutE_range (f : Nat → Fl.Ed) (c : Int → Bool) : ∀ n : Nat, Fl.cutE ((List.range n).map f) c = sumN n (fun i => if c (f i).f && !c (f i).t then (f i).m else 0)
  | 0 => by simp [Fl.cutE, sumN]
  | n + 1 => by
    rw [map_range_snoc, cutE_app, cutE_range f c n]
    simp [sumN, Fl.cutE]
theorem bd_range (f : Nat → Fl.Ed) : ∀ (n : Nat) (xs : List Int), xs.length = n → Fl.Bd ((List.range n).map f) xs → ∀ i, i < n → 0 ≤ xs.getD i 0 ∧ xs.getD i 0 ≤ (f i).m
  | 0, _, _, _ => fun i hi => by omega
  | n + 1, xs, h, hb => fun i hi => by
    rw [split_last h, map_range_snoc] at hb
    obtain ⟨h1, h2⟩ := bd_app _ _ _ _ (by simp; omega) hb
    by_cases e : i = n
    · subst e
      exact ⟨h2.1, h2.2.1⟩
    · have := bd_range f n (xs.take n) (by simp; omega) h1 i (by omega)
      rw [take_getD (by omega)] at this
      exact this

/-- an assignment, whole -/
structure UOk (p : Pg) (l : List At) (us : List Us) : Prop where
  one : ∀ u ∈ us, (0 ≤ u.att ∧ u.att < (l.length : Int)) ∧ (0 ≤ u.req ∧ u.req < (p.reqs.length : Int)) ∧ (1 ≤ u.credits ∧ u.credits ≤ (l.getD u.att.toNat default).credits) ∧ elig (p.reqs.getD u.req.toNat default) (l.getD u.att.toNat default) = true
  ord : us.Pairwise lexlt
  att : ∀ u ∈ us, usA u.att us ≤ (l.getD u.att.toNat default).credits * p.uses
  req : ∀ u ∈ us, usR u.req us ≤ (p.reqs.getD u.req.toNat default).credits
theorem usA_app (k : Int) : ∀ a b : List Us, usA k (a ++ b) = usA k a + usA k b
  | [], b => by simp [usA]
  | u :: a, b => by simp only [List.cons_append, usA, usA_app k a b]; omega
theorem usR_app (k : Int) : ∀ a b : List Us, usR k (a ++ b) = usR k a + usR k b
  | [], b => by simp [usR]
  | u :: a, b => by simp only [List.cons_append, usR, usR_app k a b]; omega
theorem usT_app : ∀ a b : List Us, usT (a ++ b) = usT a + usT b
  | [], b => by simp [usT]
  | u :: a, b => by simp only [List.cons_append, usT, usT_app a b]; omega
theorem usA_pos (k : Int) : ∀ l : List Us, (∀ u ∈ l, 1 ≤ u.credits) → 0 ≤ usA k l
  | [], _ => by simp [usA]
  | u :: l, h => by
    have h1 := usA_pos k l (fun v hv => h v (List.mem_cons_of_mem _ hv))
    have h2 := h u (List.mem_cons_self ..)
    simp only [usA]; split <;> omega
theorem usR_pos (k : Int) : ∀ l : List Us, (∀ u ∈ l, 1 ≤ u.credits) → 0 ≤ usR k l
  | [], _ => by simp [usR]
  | u :: l, h => by
    have h1 := usR_pos k l (fun v hv => h v (List.mem_cons_of_mem _ hv))
    have h2 := h u (List.mem_cons_self ..)
    simp only [usR]; split <;> omega
theorem okAgo_of {p : Pg} {l : List At} {us : List Us} (h : UOk p l us) : ∀ (rest pre : List Us), pre ++ rest = us → okAgo p l pre rest = true
  | [], _, _ => rfl
  | u :: rest, pre, e => by
    have hu : u ∈ us := by rw [← e]; simp
    obtain ⟨⟨h1, h2⟩, ⟨h3, h4⟩, h5, h6⟩ := h.one u hu
    have hp : ∀ v ∈ pre ++ [u] ++ rest, 1 ≤ v.credits := fun v hv => (h.one v (by rw [← e]; simpa using hv)).2.2.1.1
    have hr : ∀ v ∈ rest, 1 ≤ v.credits := fun v hv => hp v (by simp [hv])
    simp only [okAgo, Bool.and_eq_true]
    refine ⟨(okA_iff _ _ _ _).2 ⟨⟨h1, h2, h3, h4⟩, ?_, h5, h6, ?_, ?_⟩, okAgo_of h rest (pre ++ [u]) (by rw [← e]; simp)⟩
    · unfold ordOk
      cases hl : pre.getLast? with
      | none => rfl
      | some v =>
        have hv : v ∈ pre := List.mem_of_getLast? hl
        have ho := h.ord
        rw [← e, List.pairwise_append] at ho
        have := ho.2.2 v hv u (List.mem_cons_self ..)
        unfold lexlt at this
        simp
        omega
    · have := h.att u hu
      rw [← e, usA_app] at this
      have h0 := usA_pos u.att rest hr
      simp only [usA, if_true] at this
      omega
    · have := h.req u hu
      rw [← e, usR_app] at this
      have h0 := usR_pos u.req rest hr
      simp only [usR, if_true] at this
      omega
theorem okAgo_one {p : Pg} {l : List At} : ∀ (us pre : List Us), okAgo p l pre us = true → ∀ u ∈ us, (0 ≤ u.att ∧ u.att < (l.length : Int)) ∧ (0 ≤ u.req ∧ u.req < (p.reqs.length : Int)) ∧ (1 ≤ u.credits ∧ u.credits ≤ (l.getD u.att.toNat default).credits) ∧ elig (p.reqs.getD u.req.toNat default) (l.getD u.att.toNat default) = true
  | [], _, _, u, hu => by simp at hu
  | v :: us, pre, h, u, hu => by
    simp only [okAgo, Bool.and_eq_true] at h
    rcases List.mem_cons.1 hu with rfl | hu
    · obtain ⟨⟨h1, h2, h3, h4⟩, _, h5, h6, _⟩ := (okA_iff _ _ _ _).1 h.1
      exact ⟨⟨h1, h2⟩, ⟨h3, h4⟩, h5, h6⟩
    · exact okAgo_one us _ h.2 u hu
theorem okAgo_ord {p : Pg} {l : List At} : ∀ (us pre : List Us), pre.Pairwise lexlt → okAgo p l pre us = true → (pre ++ us).Pairwise lexlt
  | [], pre, h, _ => by simpa using h
  | u :: us, pre, h, hk => by
    simp only [okAgo, Bool.and_eq_true] at hk
    have := okAgo_ord us (pre ++ [u]) (by
      rw [List.pairwise_append]
      refine ⟨h, by simp, fun a ha b hb => ?_⟩
      simp at hb
      subst hb
      obtain ⟨_, ho, _⟩ := (okA_iff _ _ _ _).1 hk.1
      obtain ⟨z, hz⟩ : ∃ z, pre.getLast? = some z := by
        cases hp : pre.getLast? with
        | none => rw [List.getLast?_eq_none_iff] at hp; subst hp; simp at ha
        | some z => exact ⟨z, rfl⟩
      have hzu := ordOk_lt ho hz
      obtain ⟨q, rfl⟩ := List.getLast?_eq_some_iff.1 hz
      rcases List.mem_append.1 ha with ha | ha
      · rw [List.pairwise_append] at h
        exact lexlt_trans (h.2.2 a ha z (by simp)) hzu
      · simp at ha
        subst ha
        exact hzu) hk.2
    simpa using this
theorem uok_of {p : Pg} {l : List At} {us : List Us} (hg : goodP p = true) (hga : ∀ a ∈ l, a.good = true) (h : okAgo p l [] us = true) : UOk p l us := by
  have hI := AInv.all us [] (AInv.nil_ hg hga) h
  simp only [List.nil_append] at hI
  refine ⟨okAgo_one us [] h, by simpa using okAgo_ord us [] (by simp) h, fun u hu => ?_, fun u hu => ?_⟩
  · obtain ⟨⟨h1, h2⟩, _⟩ := hI.rng u hu
    have := hI.att u.att.toNat (by omega)
    rw [show ((u.att.toNat : Nat) : Int) = u.att by omega] at this
    exact this
  · obtain ⟨_, ⟨h1, h2⟩, _⟩ := hI.rng u hu
    have := hI.req u.req.toNat (by omega)
    rw [show ((u.req.toNat : Nat) : Int) = u.req by omega] at this
    exact this
/-- a part of an assignment -/
theorem usA_sub (k : Int) {a b : List Us} (h : a.Sublist b) (hp : ∀ u ∈ b, 1 ≤ u.credits) : usA k a ≤ usA k b := by
  induction h with
  | slnil => exact Int.le_refl _
  | cons x h ih =>
    have := ih (fun u hu => hp u (List.mem_cons_of_mem _ hu))
    have := hp x (List.mem_cons_self ..)
    simp only [usA]; split <;> omega
  | cons_cons x h ih =>
    have := ih (fun u hu => hp u (List.mem_cons_of_mem _ hu))
    simp only [usA]; omega
theorem usR_sub (k : Int) {a b : List Us} (h : a.Sublist b) (hp : ∀ u ∈ b, 1 ≤ u.credits) : usR k a ≤ usR k b := by
  induction h with
  | slnil => exact Int.le_refl _
  | cons x h ih =>
    have := ih (fun u hu => hp u (List.mem_cons_of_mem _ hu))
    have := hp x (List.mem_cons_self ..)
    simp only [usR]; split <;> omega
  | cons_cons x h ih =>
    have := ih (fun u hu => hp u (List.mem_cons_of_mem _ hu))
    simp only [usR]; omega
theorem UOk.sub {p : Pg} {l : List At} {us vs : List Us} (h : UOk p l us) (hs : vs.Sublist us) : UOk p l vs := by
  have hp : ∀ u ∈ us, 1 ≤ u.credits := fun u hu => (h.one u hu).2.2.1.1
  refine ⟨fun u hu => h.one u (hs.subset hu), h.ord.sublist hs, fun u hu => ?_, fun u hu => ?_⟩
  · exact Int.le_trans (usA_sub u.att hs hp) (h.att u (hs.subset hu))
  · exact Int.le_trans (usR_sub u.req hs hp) (h.req u (hs.subset hu))
end Go.Proofs.Ytgimpbcdgfkdmaa
