/- What Allowed says, as plain functions. -/
import Derived.Test.YtgimpbcdgfkdmaaProG
import Derived.Test.YtgimpbcdgfkdmaaMapLib
namespace Go.Proofs.Ytgimpbcdgfkdmaa
open Go.RowKit Go.Shelf
set_option linter.unusedSimpArgs false
set_option linter.unusedVariables false

def ordOk (pre : List Us) (u : Us) : Bool :=
  match pre.getLast? with
  | none => true
  | some v => decide (v.att < u.att) || (v.att == u.att && decide (v.req < u.req))
def okA (p : Pg) (l : List At) (pre : List Us) (u : Us) : Bool :=
  decide (0 ≤ u.att ∧ u.att < (l.length : Int) ∧ 0 ≤ u.req ∧ u.req < (p.reqs.length : Int)) && (ordOk pre u && (decide (1 ≤ u.credits ∧ u.credits ≤ (l.getD u.att.toNat default).credits) && (elig (p.reqs.getD u.req.toNat default) (l.getD u.att.toNat default) &&
    decide (usA u.att pre + u.credits ≤ (l.getD u.att.toNat default).credits * p.uses ∧ usR u.req pre + u.credits ≤ (p.reqs.getD u.req.toNat default).credits))))
theorem okA_iff (p : Pg) (l : List At) (pre : List Us) (u : Us) : okA p l pre u = true ↔ (0 ≤ u.att ∧ u.att < (l.length : Int) ∧ 0 ≤ u.req ∧ u.req < (p.reqs.length : Int)) ∧ ordOk pre u = true ∧ (1 ≤ u.credits ∧ u.credits ≤ (l.getD u.att.toNat default).credits) ∧
    elig (p.reqs.getD u.req.toNat default) (l.getD u.att.toNat default) = true ∧ usA u.att pre + u.credits ≤ (l.getD u.att.toNat default).credits * p.uses ∧ usR u.req pre + u.credits ≤ (p.reqs.getD u.req.toNat default).credits := by
  simp only [okA, Bool.and_eq_true, decide_eq_true_eq]
def okAgo (p : Pg) (l : List At) : List Us → List Us → Bool
  | _, [] => true
  | pre, u :: us => okA p l pre u && okAgo p l (pre ++ [u]) us
theorem okAgo_split (p : Pg) (l : List At) : ∀ (a b pre : List Us), okAgo p l pre (a ++ b) = (okAgo p l pre a && okAgo p l (pre ++ a) b)
  | [], b, pre => by simp [okAgo]
  | u :: a, b, pre => by simp only [List.cons_append, okAgo, okAgo_split p l a b (pre ++ [u]), List.append_assoc, Bool.and_assoc, List.nil_append]
/-- Allowed -/
def allowP (p : Pg) (l : List At) (us : List Us) : Int := if askedE p l = 0 then (if okAgo p l [] us then 0 else 200) else askedE p l
theorem okAgo_credits (p : Pg) (l : List At) (hl : ∀ a ∈ l, a.credits ≤ 60) : ∀ (us pre : List Us), okAgo p l pre us = true → ∀ u ∈ us, 1 ≤ u.credits ∧ u.credits ≤ 60
  | [], _, _ => by simp
  | u :: us, pre, h => by
    simp only [okAgo, Bool.and_eq_true] at h
    intro v hv
    rcases List.mem_cons.1 hv with rfl | hv
    · obtain ⟨⟨h1, h2, _⟩, _, ⟨h3, h4⟩, _⟩ := (okA_iff _ _ _ _).1 h.1
      refine ⟨h3, Int.le_trans h4 ?_⟩
      obtain ⟨k, hk⟩ : ∃ k : Nat, v.att = k := ⟨v.att.toNat, by omega⟩
      rw [hk, Int.toNat_natCast, List.getD_eq_getElem?_getD, List.getElem?_eq_getElem (by omega)]
      exact hl _ (List.getElem_mem _)
    · exact okAgo_credits p l hl us _ h.2 v hv
theorem usA_nonneg (k : Int) : ∀ l : List Us, (∀ u ∈ l, 1 ≤ u.credits ∧ u.credits ≤ 60) → 0 ≤ usA k l ∧ usA k l ≤ 60 * (l.length : Int)
  | [], _ => by simp [usA]
  | u :: l, h => by
    obtain ⟨h1, h3⟩ := usA_nonneg k l (fun v hv => h v (List.mem_cons_of_mem _ hv))
    have h2 := h u (List.mem_cons_self ..)
    simp only [usA, List.length_cons]; split <;> omega
theorem usR_nonneg2 (k : Int) : ∀ l : List Us, (∀ u ∈ l, 1 ≤ u.credits ∧ u.credits ≤ 60) → 0 ≤ usR k l ∧ usR k l ≤ 60 * (l.length : Int)
  | [], _ => by simp [usR]
  | u :: l, h => by
    obtain ⟨h1, h3⟩ := usR_nonneg2 k l (fun v hv => h v (List.mem_cons_of_mem _ hv))
    have h2 := h u (List.mem_cons_self ..)
    simp only [usR, List.length_cons]; split <;> omega
theorem ordOk_zero (u : Us) : ordOk [] u = true := rfl
theorem ordOk_at {us : List Us} {k : Nat} {v u : Us} (h : us[k]? = some v) : ordOk (us.take (k + 1)) u = (decide (v.att < u.att) || (v.att == u.att && decide (v.req < u.req))) := by
  unfold ordOk
  rw [take_snoc_of h, List.getLast?_append]
  rfl
theorem asked_zero {p : Pg} {l : List At} (h : askedE p l = 0) : goodP p = true ∧ ∀ a ∈ l, a.good = true := by
  unfold askedE at h
  split at h
  · rename_i hc
    refine ⟨goodP_of hc, fun a ha => ?_⟩
    unfold sumsA at h
    split at h
    · simp at h
    · rename_i hn
      simp only [Bool.not_eq_true] at hn
      have := List.any_eq_false.1 hn a ha
      simpa using this
  · contradiction
theorem mul_bd {a b : Int} (h0 : 0 ≤ a) (h1 : a ≤ 60) (h2 : 1 ≤ b) (h3 : b ≤ 4) : 0 ≤ a * b ∧ a * b ≤ 240 := by
  have h4 : a.natAbs ≤ 60 := by omega
  have h5 : b.natAbs ≤ 4 := by omega
  have h6 : (a * b).natAbs ≤ 60 * 4 := by rw [Int.natAbs_mul]; exact Nat.mul_le_mul h4 h5
  have h7 : 0 ≤ a * b := Int.mul_nonneg h0 (by omega)
  omega
/-- what is used of each attempt -/
def usedA (n : Nat) (pre : List Us) : List Int := (List.range n).map fun (k : Nat) => usA k pre
theorem usedA_len (n : Nat) (pre : List Us) : (usedA n pre).length = n := by simp [usedA]
theorem usedA_at (n : Nat) (pre : List Us) {k : Nat} (h : k < n) : (usedA n pre).getD k 0 = usA k pre := by
  simp [usedA, List.getD_eq_getElem?_getD, List.getElem?_range h]
theorem usedA_set (n : Nat) (pre : List Us) (u : Us) {k : Nat} (hk : u.att = k) (h : k < n) : (usedA n pre).set k (usA k pre + u.credits) = usedA n (pre ++ [u]) := by
  refine list_ext_getD (by simp [usedA_len]) (fun j hj => ?_)
  rw [List.length_set, usedA_len] at hj
  rw [getD_set _ _ _ _ (by rw [usedA_len]; exact h), usedA_at n pre hj, usedA_at n (pre ++ [u]) hj, usA_snoc]
  by_cases e : k = j
  · subst e; rw [if_pos rfl, if_pos hk]
  · rw [if_neg e, if_neg (by omega)]; omega
theorem usedA_nil (n : Nat) : usedA n [] = List.replicate n 0 := by
  refine list_ext_getD (by simp [usedA]) (fun j hj => ?_)
  rw [usedA_len] at hj
  rw [usedA_at _ _ hj]
  simp [usA, List.getD_eq_getElem?_getD, List.getElem?_replicate, hj]

/-- maps that count -/
def CntM (L : List (Int × Value)) (f : Int → Int) : Prop := ∀ x, (lookL x L).getD (.int .i64 0) = .int .i64 (f x)
theorem CntM.zero : CntM [] (fun _ => 0) := fun _ => rfl
theorem CntM.upd {L : List (Int × Value)} {f : Int → Int} (h : CntM L f) (k n : Int) : CntM (updL k (.int .i64 n) L) (fun x => if k = x then n else f x) := fun x => by
  by_cases e : k = x
  · subst e; rw [lookL_upd]; simp
  · rw [lookL_upd_ne (fun h => e h.symm)]; simpa [e] using h x
theorem CntM.ext {L : List (Int × Value)} {f g : Int → Int} (h : CntM L f) (e : ∀ x, f x = g x) : CntM L g := fun x => by rw [h x, e x]
theorem zeroInt (w : World) : (zeroValue 3).run Try.prog w = .ok (.int .i64 0) w := by kernel_rfl
theorem look_cnt {W : World} {r : Nat} {L : List (Int × Value)} {f : Int → Int} (h : MapIs W r L) (hf : CntM L f) (k : Int) :
    (Instr.lookup 65 (.map (some r)) (.int .i64 k) false).run Try.prog W = .ok (.int .i64 (f k)) W := by
  rw [(run_lookup_ints (P := Try.prog) Try.underlying65 Try.underlying3 h (zeroInt W) k).1, hf k]
theorem upd_map {W : World} {r : Nat} {l : List (Int × Value)} (h : MapIs W r l) (k : Int) (v : Value) :
    ∃ w', (Instr.mapUpdate 65 (.map (some r)) (.int .i64 k) v).run Try.prog W = .ok () w' ∧ MapIs w' r (updL k v l) ∧ W.grownBy w' (some r) ∧ w'.heap.size = W.heap.size :=
  run_mapUpdate_ints (P := Try.prog) Try.underlying65 Try.underlying3 h k v
theorem MapIs.grown {W W' : World} {r : Nat} {l : List (Int × Value)} (h : MapIs W r l) {row : Option Nat} (hg : W.grownBy W' row) (hr : row ≠ some r) : MapIs W' r l := by
  obtain ⟨es, c, h1, h2⟩ := h
  exact ⟨es, c, (hg.block r (Array.getElem?_eq_some_iff.1 h1).1 (fun e => hr e.symm)).trans h1, h2⟩
theorem MapIs.step {W W' : World} {r : Nat} {l : List (Int × Value)} (h : MapIs W r l) (hb : Below W.heap.size W W') : MapIs W' r l := h.below hb h.lt
theorem Bx.far {W W' : World} {b : Nat} {cs : List Value} (h : Bx W b cs) {row : Option Nat} (hg : W.grownBy W' row) (hr : row ≠ some b) : Bx W' b cs := by
  have hk := hg.block b h.2.2 (fun e => hr e.symm)
  exact ⟨fun i v e => (World.cell?_of_block (a := ⟨b, i, none⟩) hk).trans (h.1 i v e), fun i => (World.frozen?_of_block (a := ⟨b, i, none⟩) hk).trans (h.2.1 i), Nat.lt_of_lt_of_le h.2.2 hg.size⟩
theorem Bx.drewN {W : World} {b : Nat} {cs : List Value} (h : Bx W b cs) (n : Nat) : Bx (W.drewN n) b cs := h
theorem Bx.alloc {W : World} {b : Nat} {cs : List Value} (h : Bx W b cs) (o : Obj) : Bx (W.alloc o) b cs := h.step ((Below.refl _ _).alloc (Nat.le_refl _) _)
end Go.Proofs.Ytgimpbcdgfkdmaa
