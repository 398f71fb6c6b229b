/- What the laws say of flows and cuts: plain laws. -/
import Derived.Test.YtjpnbpfbdkbknaaFlowT
namespace Go.Proofs.Ytjpnbpfbdkbknaa
open Go.RowKit Go.Shelf
set_option linter.unusedSimpArgs false
set_option linter.unusedVariables false


theorem cut_congr {c d : Int → Bool} : ∀ (l : List Ed), (∀ e ∈ l, c e.f = d e.f ∧ c e.t = d e.t) → cutE l c = cutE l d
  | [], _ => rfl
  | e :: l, h => by
    simp only [cutE, cut_congr l (fun e' he => h e' (List.mem_cons_of_mem _ he)), (h e (List.mem_cons_self ..)).1, (h e (List.mem_cons_self ..)).2]
def setOf (cs : List Bool) (v : Int) : Bool := cs.getD v.toNat false
theorem CutOk.set {n : Nat} {cs : List Bool} {c : Int → Bool} (h : CutOk n cs c) {v : Int} (h0 : 0 ≤ v) (h1 : v < n) : setOf cs v = c v := by
  obtain ⟨k, rfl⟩ : ∃ k : Nat, v = (k : Int) := ⟨v.toNat, by omega⟩
  unfold setOf
  rw [Int.toNat_natCast, getD_some (h.2 k (by omega))]
theorem CutOk.cut {n : Nat} {cs : List Bool} {c : Int → Bool} {l : List Ed} (h : CutOk n cs c) (hin : InN n l) : cutE l (setOf cs) = cutE l c :=
  cut_congr l fun e he => by
    obtain ⟨h1, h2, h3, h4⟩ := hin e he
    exact ⟨h.set h1 h2, h.set h3 h4⟩
theorem okX_out {n a b : Int} {l : List Ed} (h : okX n l a b = true) : 2 ≤ n ∧ n ≤ 4096 ∧ l.length ≤ 65536 ∧ (∀ e ∈ l, okE n e = true) ∧ 0 ≤ a ∧ a < n ∧ 0 ≤ b ∧ b < n ∧ a ≠ b := by
  have h2 := h
  simp only [okX, Bool.and_eq_true] at h2
  obtain ⟨h3, h4, h5, h6⟩ := okN_out h2.1
  obtain ⟨h7, h8, h9, h10, h11⟩ := okV_out h2.2
  exact ⟨h3, h4, h5, h6, h7, h8, h9, h10, h11⟩
theorem value_ways (n a b : Int) (l : List Ed) (fs : List Int) : (okX n l a b = true ∧ IsFl n.toNat l a b fs ∧ valueF n a b l fs = (outE l fs a, 0)) ∨ valueF n a b l fs = (0, 180) := by
  unfold valueF
  by_cases h : (okX n l a b && (okFl l fs && consF n.toNat l a b fs)) = true
  · left
    rw [if_pos h]
    simp only [Bool.and_eq_true] at h
    obtain ⟨h1, h2, h3⟩ := h
    obtain ⟨hn, _, _, _, ha0, ha1, hb0, hb1, hab⟩ := okX_out h1
    refine ⟨h1, ⟨okFl_bd.1 h2, fun v h0 hv hva hvb => ?_⟩, rfl⟩
    unfold consF at h3
    rw [List.all_eq_true] at h3
    have := h3 v.toNat (List.mem_range.2 (by omega))
    unfold restV at this
    rw [Int.toNat_of_nonneg h0] at this
    simpa [hva, hvb] using this
  · right
    rw [if_neg h]
theorem value_yes {n a b : Int} {l : List Ed} {fs : List Int} (h1 : okX n l a b = true) (h2 : IsFl n.toNat l a b fs) : valueF n a b l fs = (outE l fs a, 0) := by
  unfold valueF
  rw [h1, okFl_bd.2 h2.1, if_pos]
  simp only [Bool.true_and]
  unfold consF
  rw [List.all_eq_true]
  intro v hv
  have hv := List.mem_range.1 hv
  unfold restV
  by_cases e1 : (v : Int) = a
  · simp [e1]
  · by_cases e2 : (v : Int) = b
    · simp [e2]
    · simp [e1, e2, h2.2 v (by omega) (by omega) e1 e2]
theorem cap_ways (n a b : Int) (l : List Ed) (cs : List Bool) : (okX n l a b = true ∧ (cs.length : Int) = n ∧ IsCut a b (setOf cs) ∧ capF n a b l cs = (cutE l (setOf cs), 0)) ∨ capF n a b l cs = (0, 180) := by
  unfold capF
  by_cases h : (okX n l a b && (decide ((cs.length : Int) = n) && (cs.getD a.toNat false && !cs.getD b.toNat false))) = true
  · left
    rw [if_pos h]
    simp only [Bool.and_eq_true, decide_eq_true_eq, Bool.not_eq_true'] at h
    exact ⟨h.1, h.2.1, ⟨h.2.2.1, h.2.2.2⟩, rfl⟩
  · right
    rw [if_neg h]
theorem cap_yes {n a b : Int} {l : List Ed} {cs : List Bool} {c : Int → Bool} (h1 : okX n l a b = true) (h2 : CutOk n.toNat cs c) (h3 : IsCut a b c) : capF n a b l cs = (cutE l c, 0) := by
  obtain ⟨hn, _, _, _, ha0, ha1, hb0, hb1, hab⟩ := okX_out h1
  have hin := okX_inn h1
  have ea : cs.getD a.toNat false = true := (h2.set ha0 (by omega)).trans h3.1
  have eb : cs.getD b.toNat false = false := (h2.set hb0 (by omega)).trans h3.2
  have hl : decide ((cs.length : Int) = n) = true := by have := h2.1; simp; omega
  unfold capF
  rw [h1, ea, eb, hl]
  simp only [Bool.not_false, Bool.and_self, if_true]
  have := h2.cut hin
  unfold setOf at this
  rw [this]
/-- weak duality -/
theorem weak_law (n a b : Int) (l : List Ed) (fs : List Int) (cs : List Bool) : (valueF n a b l fs).2 = 180 ∨ (capF n a b l cs).2 = 180 ∨ ((valueF n a b l fs).2 = 0 ∧ (capF n a b l cs).2 = 0 ∧ (valueF n a b l fs).1 ≤ (capF n a b l cs).1) := by
  rcases value_ways n a b l fs with ⟨h1, h2, e1⟩ | e1
  · rcases cap_ways n a b l cs with ⟨_, h3, h4, e2⟩ | e2
    · right; right
      obtain ⟨hn, _, _, _, ha0, ha1, hb0, hb1, hab⟩ := okX_out h1
      rw [e1, e2]
      exact ⟨rfl, rfl, weakE (okX_inn h1) ha0 (by omega) h2 h4⟩
    · right; left; rw [e2]
  · left; rw [e1]
theorem dual_law {n a b : Int} {l : List Ed} {xs : List Int} {cs : List Bool} {c : Int → Bool} (h1 : okX n l a b = true) (h : MaxR n.toNat l a b xs c) (hc : CutOk n.toNat cs c) : ∃ V : Int, valueF n a b l xs = (V, 0) ∧ capF n a b l cs = (V, 0) ∧ V = outE l xs a := by
  obtain ⟨hn, _, _, _, ha0, ha1, hb0, hb1, hab⟩ := okX_out h1
  refine ⟨outE l xs a, value_yes h1 h.1, ?_, rfl⟩
  rw [cap_yes h1 hc h.2.1, h.dual (okX_inn h1) ha0 (by omega)]
/-- any cut against the one of Max -/
theorem least_law {n a b : Int} {l : List Ed} {xs : List Int} {cs ds : List Bool} {c : Int → Bool} (h1 : okX n l a b = true) (h : MaxR n.toNat l a b xs c) (hc : CutOk n.toNat cs c) :
    capF n a b l ds = (0, 180) ∨ ∃ V W : Int, capF n a b l cs = (V, 0) ∧ capF n a b l ds = (W, 0) ∧ V ≤ W ∧ cs.length = ds.length ∧ (W = V → ∀ i : Nat, cs[i]? = some true → ds[i]? = some true) := by
  obtain ⟨hn, _, _, _, ha0, ha1, hb0, hb1, hab⟩ := okX_out h1
  have hin := okX_inn h1
  rcases cap_ways n a b l ds with ⟨_, hl, hd, e2⟩ | e2
  · right
    refine ⟨_, _, cap_yes h1 hc h.2.1, e2, h.min hin ha0 (by omega) hd, by have := hc.1; omega, fun he i hi => ?_⟩
    have hil : i < cs.length := (List.getElem?_eq_some_iff.1 hi).1
    have hin' : i < n.toNat := by rw [← hc.1]; exact hil
    have h3 := hc.2 i hin'
    rw [hi] at h3
    injection h3 with h3
    have h4 := h.least hin ha0 (by omega) hd (by omega) (i : Int) (by omega) (by omega) h3.symm
    unfold setOf at h4
    rw [Int.toNat_natCast] at h4
    have hid : i < ds.length := by omega
    rw [List.getElem?_eq_getElem hid]
    rw [List.getD_eq_getElem?_getD, List.getElem?_eq_getElem hid] at h4
    simpa using h4
  · exact .inl e2
end Go.Proofs.Ytjpnbpfbdkbknaa
