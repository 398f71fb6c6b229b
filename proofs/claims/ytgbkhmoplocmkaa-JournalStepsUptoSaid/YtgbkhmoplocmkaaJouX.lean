/- Journals: plain: what a Sync leaves. -/
import Derived.Test.YtgbkhmoplocmkaaJouW
namespace Go.Proofs.Ytgbkhmoplocmkaa
open Go.RowKit Go.Shelf
set_option linter.unusedSimpArgs false
set_option linter.unusedVariables false
set_option maxRecDepth 20000

/-- a disk that runs, nothing waiting -/
structure Cln (d : Dk) : Prop where
  valid : validD d = true
  runs : d.stopped = false
  pend : d.pend = []
  bytes : ∀ s ∈ d.secs, Byt s
theorem Cln.sizes {d : Dk} (h : Cln d) : 1 ≤ d.secs.length ∧ d.secs.length ≤ 4096 ∧ (∀ s ∈ d.secs, s.length = 128) ∧ -1 ≤ d.left ∧ d.left ≤ 65536 := by
  have h1 := h.valid
  simp [validD, sizesOk, isSec] at h1
  exact ⟨by omega, by omega, h1.2.2, by omega, by omega⟩
theorem Cln.mk_ {ss : List (List Int)} {lf : Int} (h1 : 1 ≤ ss.length) (h2 : ss.length ≤ 4096) (h3 : ∀ s ∈ ss, s.length = 128 ∧ Byt s) (h4 : -1 ≤ lf ∧ lf ≤ 65536) : Cln ⟨ss, [], lf, false⟩ :=
  ⟨runs_mk (d := ⟨ss, [], lf, false⟩) (by simp) (fun b hb => (h3 b hb).1) h1 h2 (by simp) h4.1 h4.2, rfl, rfl, fun s hs => (h3 s hs).2⟩

theorem secsB_byt {g : Int} {a : Nat} {b : List Int} (hb : Byt b) : ∀ s ∈ secsB g a b, Byt s := fun s hs => by
  obtain ⟨k, _, rfl⟩ := List.mem_map.1 hs
  exact enc_byte _ _ _ (cutB_len b k) (kindK_range _ _) (cutB_ok hb k)
theorem secsR_byt {g : Int} : ∀ (r : List (List Int)) (a : Nat), (∀ b ∈ r, Byt b) → ∀ s ∈ secsR g a r, Byt s
  | [], _, _, s, hs => by cases hs
  | b :: r, a, h, s, hs => by
    rcases List.mem_append.1 hs with h1 | h1
    · exact secsB_byt (h b (List.mem_cons_self ..)) s h1
    · exact secsR_byt r _ (fun x hx => h x (List.mem_cons_of_mem _ hx)) s h1
theorem secsR_gen {g : Int} (hg : 0 ≤ g ∧ g < 4294967296) : ∀ (r : List (List Int)) (a : Nat), ∀ s ∈ secsR g a r, num4 s = g ∧ numE s = g
  | [], _, s, hs => by cases hs
  | b :: r, a, s, hs => by
    rcases List.mem_append.1 hs with h1 | h1
    · obtain ⟨k, _, rfl⟩ := List.mem_map.1 h1
      have := enc_parts g ((a + k : Nat) : Int) (kindK k (sectK b)) (cutB_len b k) hg
      exact ⟨this.1, this.2.1⟩
    · exact secsR_gen hg r _ s h1
/-- a sector that was torn -/
def tornJ (x y : List Int) : List Int := x.take 64 ++ y.drop 64
theorem torn_facts {x y : List Int} (hx : x.length = 128 ∧ Byt x) (hy : y.length = 128 ∧ Byt y) : (tornJ x y).length = 128 ∧ Byt (tornJ x y) ∧ num4 (tornJ x y) = num4 x ∧ numE (tornJ x y) = numE y := by
  refine ⟨by simp [tornJ, hx.1, hy.1], fun b hb => ?_, ?_, ?_⟩
  · rcases List.mem_append.1 hb with h | h
    · exact hx.2 b (List.mem_of_mem_take h)
    · exact hy.2 b (List.mem_of_mem_drop h)
  · unfold num4 tornJ
    rw [List.take_append_of_le_length (by simp [hx.1]), List.take_take]
    simp
  · unfold numE tornJ
    rw [show (124 : Nat) = 64 + 60 from rfl, ← List.drop_drop, parts_drop _ _ (by simp [hx.1]), List.drop_drop]

section
variable {d : Dk} {rs : List (List Int)} {pre rest : List (List Int)} {G : Int}
/-- all was written: all is read -/
theorem read_all {ss ss' : List (List Int)} {a : Nat} {g : Int} (hG : 0 < G ∧ G < 4294967296) (hc : Chn ss 0 0 pre a g) (hgG : g ≤ G) (hr : rest ≠ []) (hrl : ∀ b ∈ rest, b.length ≤ 9223372036854775696)
    (hs : ∀ i, ss'[i]? = if a ≤ i ∧ i < a + (secsR G a rest).length then (secsR G a rest)[i - a]? else ss[i]?) (hold : ∀ s ∈ ss, num4 s < G) : recsJ ss' = pre ++ rest := by
  have h1 := hc.agree (l' := ss') (fun i hi => by rw [hs, if_neg (by omega)])
  have h2 := chn_new (l := ss') hG rest a g hgG hrl (fun i hi => by rw [hs, if_pos (by omega), Nat.add_sub_cancel_left])
  rw [if_neg hr] at h2
  refine chn_recsJ (h1.app h2) (recGo_none (a + (secsR G a rest).length) _ _ [] rfl (Nat.le_refl _) (fun i h3 h4 => by omega) (fun s h3 => ?_))
  rw [hs, if_neg (by omega)] at h3
  have := hold s (List.mem_of_getElem? h3)
  unfold okB
  simp
  omega
/-- it stopped behind m sectors -/
theorem read_some {ss ss' : List (List Int)} {a m : Nat} {g : Int} {t : List Int} (hG : 0 < G ∧ G < 4294967296) (hc : Chn ss 0 0 pre a g) (hgG : g ≤ G) (hm : m < (secsR G a rest).length) (hrl : ∀ b ∈ rest, b.length ≤ 9223372036854775696)
    (hs : ∀ i, ss'[i]? = if i = a + m then some t else if a ≤ i ∧ i < a + m then (secsR G a rest)[i - a]? else ss[i]?) (ht : goodB t ((a + m : Nat) : Int) = false) : ∃ k, k ≤ rest.length ∧ recsJ ss' = pre ++ rest.take k := by
  obtain ⟨r1, b, r2, e, h3, h4⟩ := cut_at G rest a m hm
  have h1 := hc.agree (l' := ss') (fun i hi => by rw [hs, if_neg (by omega), if_neg (by omega)])
  have hw : secsR G a rest = secsR G a r1 ++ (secsB G (a + (secsR G a r1).length) b ++ secsR G (a + (secsR G a r1).length + sectK b) r2) := by rw [e, secsR_app]; rfl
  have h2 := chn_new (l := ss') hG r1 a g hgG (fun b hb => hrl b (by rw [e]; exact List.mem_append_left _ hb)) (fun i hi => by rw [hs, if_neg (by omega), if_pos (by omega), Nat.add_sub_cancel_left, hw, List.getElem?_append_left hi])
  refine ⟨r1.length, by rw [e]; simp, ?_⟩
  have e2 : rest.take r1.length = r1 := by rw [e]; simp
  rw [e2]
  refine chn_recsJ (h1.app h2) (recGo_none (a + m) _ _ [] rfl (by omega) (fun i h5 h6 s h7 => ?_) (fun s h7 => ?_))
  · rw [hs, if_neg (by omega), if_pos (by omega), hw, List.getElem?_append_right (by omega), List.getElem?_append_left (by rw [secsB_len]; omega), secsB_get (by omega)] at h7
    cases h7
    unfold endB
    rw [(enc_parts G _ _ (cutB_len b _) ⟨by omega, hG.2⟩).2.2.1, (kind_parts _ _).2.1]
    simp
    omega
  · rw [hs, if_pos rfl] at h7
    cases h7
    unfold okB
    rw [ht]
    rfl
end

/-- what Sync leaves -/
theorem sync_law {l : Jl} {d : Dk} {sy : Nat} (hv : validJ l = true) (hd : Cln d) (hm : l.many = d.secs.length) (hs : l.synced = sy) (hr : recsJ d.secs = l.recs.take sy) (hB : ∀ b ∈ l.recs, Byt b) (hg : genF d.secs + 1 < 4294967296) (hfit : sumK l.recs ≤ d.secs.length) (hlen : ∀ b ∈ l.recs, b.length ≤ 9223372036854775696) :
    (∃ d', syncJ l d = (⟨l.recs, l.many, l.recs.length⟩, d', 0) ∧ Cln d' ∧ d'.secs.length = d.secs.length ∧ recsJ d'.secs = l.recs ∧ genF d'.secs ≤ genF d.secs + 1 ∧ (d.left = -1 → d'.left = -1) ∧
      (sy < l.recs.length → d'.secs = performD d.secs (pendL (sumK (l.recs.take sy)) (secsR (genF d.secs + 1) (sumK (l.recs.take sy)) (l.recs.drop sy))))) ∨
    (∃ d', syncJ l d = (Jl.zero, d', 450) ∧ 0 ≤ d.left ∧ Cln (restartD d') ∧ d'.secs.length = d.secs.length ∧ (∃ m, sy ≤ m ∧ m ≤ l.recs.length ∧ recsJ d'.secs = l.recs.take m) ∧ genF d'.secs ≤ genF d.secs + 1) := by
  obtain ⟨z1, z2, z3, z4, z5⟩ := hd.sizes
  have hb2 : ∀ s ∈ d.secs, s.length = 128 ∧ Byt s := fun s h => ⟨z3 s h, hd.bytes s h⟩
  have hsy : sy ≤ l.recs.length := by simp [validJ] at hv; omega
  have hgp := genF_pos d.secs
  have hG : 0 < genF d.secs + 1 ∧ genF d.secs + 1 < 4294967296 := by omega
  have hgd : goodJ l d = true := by unfold goodJ; rw [hs, Int.toNat_natCast, hr]; simp; omega
  obtain ⟨a, g, c1, c2, c3⟩ := recsJ_chn d.secs
  rw [hr] at c1
  have c4 := c1.sum hb2 z2 (Nat.zero_le _)
  rw [Nat.zero_add] at c4
  have hgG : g ≤ genF d.secs + 1 := by
    rcases c1.gen with rfl | ⟨s, h1, rfl⟩
    · omega
    · have := (genF_max h1).1
      omega
  have hold : ∀ s ∈ d.secs, num4 s < genF d.secs + 1 := fun s h => by have := (genF_max h).1; omega
  have hsplit : sumK l.recs = a + sumK (l.recs.drop sy) := by rw [← c4, ← sumK_app, List.take_append_drop]
  by_cases hfin : sy = l.recs.length
  · left
    have e1 : syncJ l d = (l, d, 0) := by
      unfold syncJ
      rw [if_pos hv, if_pos hd.valid, hd.runs, if_neg (by simp), if_pos hm, if_pos (by rw [hd.pend]; rfl), if_pos hgd, if_pos (by rw [hs, hfin])]
    refine ⟨d, ?_, hd, rfl, by rw [hr, hfin, List.take_length], by omega, fun h => h, fun h => by omega⟩
    rw [e1]
    obtain ⟨r, m, s⟩ := l
    simp only at hs hfin ⊢
    rw [hs, hfin]
  · have hne : l.recs.drop sy ≠ [] := by simp; omega
    obtain ⟨rest, hrest⟩ : ∃ x, x = l.recs.drop sy := ⟨_, rfl⟩
    rw [← hrest] at hne hsplit
    have hu : usedR (l.recs.take sy) = a := by rw [usedR_sum (by omega), c4]
    obtain ⟨G, hGe⟩ : ∃ G, G = genF d.secs + 1 := ⟨_, rfl⟩
    rw [← hGe] at hG hgG hold
    obtain ⟨ws, hws⟩ : ∃ x, x = secsR G a rest := ⟨_, rfl⟩
    have hwl : ws.length = sumK rest := by rw [hws, secsR_sum]
    have hfit2 : a + ws.length ≤ d.secs.length := by omega
    have hpo : pre_ok d a ws := ⟨hfit2, by rw [hws]; exact secsR_all G rest a⟩
    have hrun := dskW_runs hd.valid hpo
    have hrB : ∀ b ∈ rest, Byt b := fun b h => hB b (by rw [hrest] at h; exact List.mem_of_mem_drop h)
    have hrl : ∀ b ∈ rest, b.length ≤ 9223372036854775696 := fun b h => hlen b (by rw [hrest] at h; exact List.mem_of_mem_drop h)
    have hwB : ∀ s ∈ ws, s.length = 128 ∧ Byt s := fun s h => ⟨hpo.2 s h, by rw [hws] at h; exact secsR_byt rest a hrB s h⟩
    have hwG : ∀ s ∈ ws, num4 s = G ∧ numE s = G := fun s h => by rw [hws] at h; exact secsR_gen ⟨by omega, hG.2⟩ rest a s h
    have hrecs : l.recs = l.recs.take sy ++ rest := by rw [hrest, List.take_append_drop]
    have e1 : syncJ l d = syncW l d := by
      unfold syncJ
      rw [if_pos hv, if_pos hd.valid, hd.runs, if_neg (by simp), if_pos hm, if_pos (by rw [hd.pend]; rfl), if_pos hgd, if_neg (by rw [hs]; omega)]
    have e2 : syncW l d = (if (syncD (dskW d a ws)).2 = 0 then (⟨l.recs, l.many, l.recs.length⟩, (syncD (dskW d a ws)).1, 0) else (Jl.zero, (syncD (dskW d a ws)).1, (syncD (dskW d a ws)).2)) := by
      unfold syncW
      simp only [hs, Int.toNat_natCast, hu, ← hGe, ← hrest, ← hws]
      rw [if_pos hfit2]
    rw [e1, e2]
    have hsl : (dskW d a ws).pend.length = ws.length := pendL_len ws a
    by_cases hst : 0 ≤ d.left ∧ d.left < (ws.length : Int)
    · right
      obtain ⟨m, hmm⟩ : ∃ m : Nat, d.left = m := ⟨d.left.toNat, by omega⟩
      have hml : m < ws.length := by omega
      obtain ⟨t, ht⟩ : ∃ t, t = tornJ (ws.getD m []) (d.secs.getD (a + m) []) := ⟨_, rfl⟩
      have w1 : ws.getD m [] = ws[m] := by rw [List.getD_eq_getElem?_getD, List.getElem?_eq_getElem hml]; rfl
      have w2 : d.secs.getD (a + m) [] = d.secs[a + m] := by rw [List.getD_eq_getElem?_getD, List.getElem?_eq_getElem (by omega)]; rfl
      have m1 : ws[m] ∈ ws := List.getElem_mem hml
      have m2 : d.secs[a + m] ∈ d.secs := List.getElem_mem (by omega)
      obtain ⟨t1, t2, t3, t4⟩ := torn_facts (hwB _ m1) (hb2 _ m2)
      rw [w1, w2] at ht
      rw [← ht] at t1 t2 t3 t4
      obtain ⟨ss, hss⟩ : ∃ x, x = (performD d.secs (pendL a (ws.take m))).set (a + m) t := ⟨_, rfl⟩
      have hq := perform_row (ws.take m) d.secs a
      have hmt : (ws.take m).length = m := by simp; omega
      rw [hmt] at hq
      have e3 : syncD (dskW d a ws) = (⟨ss, [], 0, true⟩, 450) := by
        unfold syncD
        rw [if_pos hrun, if_pos (show 0 ≤ (dskW d a ws).left ∧ (dskW d a ws).left < ((dskW d a ws).pend.length : Int) by rw [hsl]; exact hst)]
        simp only [dskW, hmm, Int.toNat_natCast, pendL_take, pendL_get ws a m hml]
        rw [hss, ht, w1, tornJ]
        have := hq (a + m) (by omega)
        rw [if_neg (by omega)] at this
        simp only [List.getD_eq_getElem?_getD]
        rw [this, List.getElem?_eq_getElem (by omega)]
        rfl
      have hssl : ss.length = d.secs.length := by rw [hss]; simp [perform_len]
      have hget : ∀ i, ss[i]? = if i = a + m then some t else if a ≤ i ∧ i < a + m then ws[i - a]? else d.secs[i]? := fun i => by
        rw [hss, List.getElem?_set]
        by_cases h1 : a + m = i
        · subst h1
          rw [if_pos rfl, if_pos rfl, if_pos (by simp only [perform_len]; omega)]
        · rw [if_neg h1, if_neg (fun h => h1 h.symm), hq i (by omega)]
          by_cases h2 : a ≤ i ∧ i < a + m
          · rw [if_pos h2, if_pos h2, List.getElem?_take, if_pos (by omega)]
          · rw [if_neg h2, if_neg h2]
      have hmem : ∀ s ∈ ss, s = t ∨ s ∈ ws ∨ s ∈ d.secs := fun s h => by
        obtain ⟨i, hi, rfl⟩ := List.getElem_of_mem h
        have h1 := hget i
        rw [List.getElem?_eq_getElem hi] at h1
        split at h1
        · exact .inl (Option.some.inj h1)
        · split at h1
          · exact .inr (.inl (List.mem_of_getElem? h1.symm))
          · exact .inr (.inr (List.mem_of_getElem? h1.symm))
      have hbad : goodB t ((a + m : Nat) : Int) = false := by
        cases h : goodB t ((a + m : Nat) : Int)
        · rfl
        · have h1 := good_twice t2 h
          rw [t3, t4, (hwG _ m1).1] at h1
          have := (genF_max m2).2
          omega
      obtain ⟨k, hk, hk2⟩ := read_some (ss' := ss) (m := m) (t := t) (rest := rest) hG c1 hgG (by rw [← hws]; exact hml) hrl (by rw [← hws]; exact hget) hbad
      have hgen : genF ss ≤ genF d.secs + 1 := genF_most (fun s h => by
        rcases hmem s h with rfl | h | h
        · rw [t3, t4, (hwG _ m1).1]
          have := (genF_max m2).2
          omega
        · have := hwG s h
          omega
        · have := genF_max h
          omega) (by omega)
      refine ⟨⟨ss, [], 0, true⟩, ?_, hst.1, ?_, hssl, ⟨sy + k, by omega, ?_, ?_⟩, hgen⟩
      · rw [e3]
        simp
      · show Cln ⟨ss, [], -1, false⟩
        exact Cln.mk_ (by omega) (by omega) (fun s h => by
          rcases hmem s h with rfl | h | h
          · exact ⟨t1, t2⟩
          · exact hwB s h
          · exact hb2 s h) (by omega)
      · have : l.recs.length = sy + rest.length := by rw [hrest]; simp; omega
        omega
      · rw [hk2, List.take_add, hrest]
    · left
      obtain ⟨ss, hss⟩ : ∃ x, x = performD d.secs (pendL a ws) := ⟨_, rfl⟩
      have hget := perform_row ws d.secs a
      have e3 : syncD (dskW d a ws) = (⟨ss, [], leftD d.left ws.length, false⟩, 0) := by
        rw [syncD_go hrun (by rw [hsl]; exact hst), hsl, hss]
        rfl
      have hlf : -1 ≤ leftD d.left ws.length ∧ leftD d.left ws.length ≤ 65536 := by unfold leftD; split <;> omega
      have hssl : ss.length = d.secs.length := by rw [hss]; simp [perform_len]
      have hmem : ∀ s ∈ ss, s ∈ ws ∨ s ∈ d.secs := fun s h => by
        obtain ⟨i, hi, rfl⟩ := List.getElem_of_mem h
        have h1 := hget i hfit2
        rw [← hss, List.getElem?_eq_getElem hi] at h1
        split at h1
        · exact .inl (List.mem_of_getElem? h1.symm)
        · exact .inr (List.mem_of_getElem? h1.symm)
      refine ⟨⟨ss, [], leftD d.left ws.length, false⟩, ?_, ?_, hssl, ?_, ?_, ?_, ?_⟩
      · rw [e3]
        simp
      · exact Cln.mk_ (by omega) (by omega) (fun s h => by
          rcases hmem s h with h | h
          · exact hwB s h
          · exact hb2 s h) hlf
      · conv => rhs; rw [hrecs]
        exact read_all (G := G) hG c1 hgG hne hrl (fun i => by rw [hss, ← hws]; exact hget i hfit2) hold
      · exact genF_most (fun s h => by
          rcases hmem s h with h | h
          · have := hwG s h
            omega
          · have := genF_max h
            omega) (by omega)
      · intro h
        show leftD d.left ws.length = -1
        unfold leftD
        omega
      · intro _
        show ss = _
        rw [hss, hws, c4, hGe, hrest]
end Go.Proofs.Ytgbkhmoplocmkaa
