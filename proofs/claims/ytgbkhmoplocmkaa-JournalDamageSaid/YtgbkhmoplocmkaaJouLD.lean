/- Journals: plain law of JournalDamage. -/
import Derived.Test.YtgbkhmoplocmkaaJouLA
import Derived.Test.YtgbkhmoplocmkaaJouY
namespace Go.Proofs.Ytgbkhmoplocmkaa
open Go.RowKit Go.Shelf
set_option linter.unusedSimpArgs false
set_option linter.unusedVariables false
set_option maxRecDepth 20000

/-- a byte of a sector changed -/
theorem damage_law {rs : List (List Int)} (h : JIn 40 ⟨rs, 40, 0⟩) :
    ∃ c, syncJ ⟨rs, 40, 0⟩ (newK 40) = (⟨rs, 40, rs.length⟩, c, 0) ∧ c.secs.length = 40 ∧ (rs ≠ [] → ∀ k, k < sumK rs → ∃ s, c.secs[k]? = some s ∧ s.length = 128 ∧ Byt s ∧
      ∀ j v, j < 128 → 0 ≤ v ∧ v < 256 → s.getD j 0 ≠ v → ∃ c1 c2 z W, writeD c k (s.set j v) = (c1, 0) ∧ syncD c1 = (c2, 0) ∧ openJ c2 = (z, 0) ∧ z.recs = rs.take W ∧ W < rs.length ∧ ∀ i, i < rs.length → (sumK (rs.take (i + 1)) ≤ k ↔ i < W)) := by
  have h0 : Sv 40 0 (newK 40) := Sv.new_ (by decide) (by decide)
  rcases sync_law (l := ⟨rs, 40, 0⟩) (d := newK 40) (sy := 0) h.valid h0.cln (by rfl) rfl (by rw [newK_recs]; rfl) h.byt (by rw [newK_gen]; decide) (by rw [h0.len]; exact h.fit) h.long with ⟨c, k1, k2, k3, k4, k5, k6, k7⟩ | ⟨c, k1, k2, _⟩
  · refine ⟨c, k1, k3.trans h0.len, fun hne k hk => ?_⟩
    have hk7 := k7 (List.length_pos_iff.2 hne)
    simp only [List.take_zero, List.drop_zero, newK_gen] at hk7
    rw [show sumK ([] : List (List Int)) = 0 from rfl, show (0 : Int) + 1 = 1 from rfl] at hk7
    have hwl := secsR_sum 1 rs 0
    have hlen : c.secs.length = 40 := k3.trans h0.len
    have hfit : sumK rs ≤ 40 := h.fit
    have hget : ∀ i, i < (secsR 1 0 rs).length → c.secs[i]? = (secsR 1 0 rs)[i]? := fun i hi => by
      rw [hk7, perform_row _ _ 0 i (by rw [hwl, Nat.zero_add, h0.len]; exact hfit), if_pos ⟨Nat.zero_le _, by rw [Nat.zero_add]; exact hi⟩, Nat.sub_zero]
    have hkw : k < (secsR 1 0 rs).length := by rw [hwl]; exact hk
    have hk40 : k < 40 := Nat.lt_of_lt_of_le hk hfit
    obtain ⟨r1, b, r2, e, q1, q2⟩ := cut_at 1 rs 0 k hkw
    have hbl : b.length ≤ 9223372036854775696 := h.long b (by show b ∈ rs; rw [e]; exact List.mem_append_right _ (List.mem_cons_self ..))
    have hsk : (secsR 1 0 rs)[k]? = some (encB 1 ((k : Nat) : Int) (kindK (k - (secsR 1 0 r1).length) (sectK b)) (cutB b (k - (secsR 1 0 r1).length))) := by
      rw [e, secsR_app, List.getElem?_append_right q1]
      show (secsB 1 _ b ++ _)[_]? = _
      rw [List.getElem?_append_left (by rw [secsB_len]; omega), secsB_get (by omega)]
      congr 3
      omega
    have hgk := (hget k hkw).trans hsk
    obtain ⟨s, hs⟩ : ∃ s, s = encB 1 ((k : Nat) : Int) (kindK (k - (secsR 1 0 r1).length) (sectK b)) (cutB b (k - (secsR 1 0 r1).length)) := ⟨_, rfl⟩
    have hgood : goodB s (k : Int) = true := by rw [hs]; exact good_enc (cutB_len _ _) (by decide) (shape_kind hbl (by omega))
    rw [← hs] at hgk
    have hmem : s ∈ c.secs := List.mem_of_getElem? hgk
    have hsl : s.length = 128 := k2.sizes.2.2.1 s hmem
    have hsb : Byt s := k2.bytes s hmem
    refine ⟨s, hgk, hsl, hsb, fun j v hj hv hnv => ?_⟩
    have hbad := good_changed (m := (k : Int)) hsl hsb hj hv hnv hgood
    have htl : (s.set j v).length = 128 := by rw [List.length_set]; exact hsl
    have htb : Byt (s.set j v) := fun y hy => by
      rcases List.mem_or_eq_of_mem_set hy with h1 | rfl
      · exact hsb y h1
      · exact hv
    obtain ⟨z1, z2, z3, z4, z5⟩ := k2.sizes
    have hrun : runsD c = true := by unfold runsD; rw [k2.valid, k2.runs]; rfl
    have hpad : padS (s.set j v) = s.set j v := by unfold padS; rw [htl]; exact List.append_nil _
    have e1 : writeD c (k : Int) (s.set j v) = (⟨c.secs, [((k : Int), s.set j v)], c.left, c.stopped⟩, 0) := by
      unfold writeD
      rw [if_pos (by rw [hrun]; unfold hasD; rw [hlen, decide_eq_true (Int.natCast_nonneg _), decide_eq_true (Int.ofNat_lt.2 hk40)]; rfl), if_pos (by rw [htl]; decide), if_neg (by rw [k2.pend]; decide), k2.pend, hpad]
      rfl
    have hleft : c.left = -1 := k6 rfl
    have hrun2 : runsD ⟨c.secs, [((k : Int), s.set j v)], c.left, c.stopped⟩ = true := by
      unfold runsD
      rw [runs_mk (d := ⟨c.secs, [((k : Int), s.set j v)], c.left, c.stopped⟩) (fun p hp => ?_) (fun b hb => z3 b hb) z1 z2 (show (1 : Nat) ≤ 4096 by decide) z4 z5, k2.runs]
      · rfl
      · rw [List.mem_singleton.1 hp]
        refine ⟨Int.natCast_nonneg _, ?_, htl⟩
        show (k : Int) < (c.secs.length : Int)
        rw [hlen]
        exact Int.ofNat_lt.2 hk40
    have e2 : syncD ⟨c.secs, [((k : Int), s.set j v)], c.left, c.stopped⟩ = (⟨c.secs.set k (s.set j v), [], c.left, false⟩, 0) := by
      unfold syncD
      rw [if_pos hrun2]
      simp only [hleft]
      rw [if_neg (fun h => absurd h.1 (by decide)), if_neg (by decide)]
      rfl
    have hset : ∀ i, (c.secs.set k (s.set j v))[i]? = if i = k then some (s.set j v) else c.secs[i]? := fun i => by
      rw [List.getElem?_set]
      by_cases hik : k = i
      · rw [if_pos hik, if_pos hik.symm, if_pos (by rw [hlen]; exact hk40)]
      · rw [if_neg hik, if_neg (fun x => hik x.symm)]
    have hc2 : Cln ⟨c.secs.set k (s.set j v), [], c.left, false⟩ :=
      Cln.mk_ (by rw [List.length_set]; exact z1) (by rw [List.length_set]; exact z2) (fun y hy => by
        rcases List.mem_or_eq_of_mem_set hy with h1 | rfl
        · exact ⟨z3 y h1, k2.bytes y h1⟩
        · exact ⟨htl, htb⟩) ⟨z4, z5⟩
    obtain ⟨p1, p, p2, pe0, pq1, pq2, pr⟩ := read_bad (ss := c.secs) (ss' := c.secs.set k (s.set j v)) (G := 1) (by decide) h.long hkw hget hset hbad
    have pe : rs = p1 ++ p :: p2 := pe0
    refine ⟨_, _, _, p1.length, e1, e2, openJ_ok hc2.valid hc2.runs (by rw [hc2.pend]; rfl), ?_, ?_, fun i hi => ?_⟩
    · show recsJ (c.secs.set k (s.set j v)) = _
      rw [pr, pe, List.take_left]
    · rw [pe, List.length_append, List.length_cons]
      omega
    · have t1 : rs.take p1.length = p1 := by rw [pe, List.take_left]
      have t2 : sumK (rs.take (p1.length + 1)) = sumK p1 + sectK p := by
        rw [pe, List.take_append, List.take_of_length_le (Nat.le_succ _), Nat.add_sub_cancel_left, sumK_app]
        show _ + sumK [p] = _
        rw [sumK_single]
      constructor
      · intro hle
        refine Nat.lt_of_not_le fun hge => ?_
        have := sumK_mono rs (Nat.succ_le_succ hge)
        rw [Nat.succ_eq_add_one, t2] at this
        exact absurd (Nat.le_trans this hle) (Nat.not_le.2 pq2)
      · intro hlt
        have := sumK_mono rs (i := i + 1) (j := p1.length) hlt
        rw [t1] at this
        exact Nat.le_trans this pq1
  · exact absurd k2 (by decide)
end Go.Proofs.Ytgbkhmoplocmkaa
