/- Journals: plain: what is read behind a Sync. -/
import Derived.Test.YtgbkhmoplocmkaaJouV
namespace Go.Proofs.Ytgbkhmoplocmkaa
open Go.RowKit Go.Shelf
set_option linter.unusedSimpArgs false
set_option linter.unusedVariables false
set_option maxRecDepth 20000

theorem secsB_get {g : Int} {a : Nat} {b : List Int} {k : Nat} (hk : k < sectK b) : (secsB g a b)[k]? = some (encB g ((a + k : Nat) : Int) (kindK k (sectK b)) (cutB b k)) := by
  rw [List.getElem?_eq_getElem (by rw [secsB_len]; exact hk)]
  simp [secsB]
theorem cut_next (b : List Int) (k : Nat) : b.take (112 * k) ++ cutB b k = b.take (112 * (k + 1)) := by
  unfold cutB
  rw [show 112 * (k + 1) = 112 * k + 112 by omega, List.take_add]
theorem sect_all {b : List Int} (h : b.length ≤ 9223372036854775696) : b.length ≤ 112 * sectK b := by
  have h1 := sectN_mid h
  have h2 := sectK_int b
  omega
/-- a record as it was written -/
theorem recGo_new {l : List (List Int)} {G last : Int} {a : Nat} {b : List Int} (hb : b.length ≤ 9223372036854775696) (hG : 0 < G ∧ G < 4294967296) (hla : last ≤ G) (hl : ∀ k, k < sectK b → l[a + k]? = (secsB G a b)[k]?) :
    ∀ (m k : Nat), sectK b - k = m → k < sectK b → recGo l a last (l.drop (a + k)) (a + k) (b.take (112 * k)) = some (a + sectK b, b)
  | m, k, hm, hk => by
    have h1 := (hl k hk).trans (secsB_get hk)
    obtain ⟨h2, h3⟩ := List.getElem?_eq_some_iff.1 h1
    have h0 := (hl 0 (by omega)).trans (secsB_get (by omega))
    have hc := cutB_len b k
    obtain ⟨p1, p2, p3, p4, p5⟩ := enc_parts G ((a + k : Nat) : Int) (kindK k (sectK b)) hc ⟨by omega, hG.2⟩
    obtain ⟨q1, _⟩ := enc_parts G ((a + 0 : Nat) : Int) (kindK 0 (sectK b)) (cutB_len b 0) ⟨by omega, hG.2⟩
    obtain ⟨k1, k2, k3⟩ := kind_parts k (sectK b)
    have hgd := good_enc (n := ((a + k : Nat) : Int)) hc hG (shape_kind hb hk)
    have ha : num4 (l.getD a []) = G := by
      rw [List.getD_eq_getElem?_getD, show l[a]? = _ from h0]
      exact q1
    rw [List.drop_eq_getElem_cons h2, h3]
    simp only [recGo]
    have hok : okB l a (a + k) last (encB G ((a + k : Nat) : Int) (kindK k (sectK b)) (cutB b k)) = true := by
      unfold okB begB
      rw [hgd, ha, p1, p3, k1]
      have : (k == 0) = (a + k == a) := by
        rw [Bool.eq_iff_iff]
        simp
      rw [this]
      simp
      exact hla
    rw [hok, if_pos rfl, p5, cut_next]
    have he : endB (encB G ((a + k : Nat) : Int) (kindK k (sectK b)) (cutB b k)) = (k + 1 == sectK b) := by unfold endB; rw [p3, k2]
    rw [he]
    by_cases hend : k + 1 = sectK b
    · rw [if_pos (by simpa using hend), List.take_of_length_le (by have := sect_all hb; rw [hend]; exact this), Nat.add_assoc, hend]
    · rw [if_neg (by simpa using hend)]
      exact recGo_new hb hG hla hl (m - 1) (k + 1) (by omega) (by omega)
  termination_by m => m
theorem chn_new {l : List (List Int)} {G : Int} (hG : 0 < G ∧ G < 4294967296) : ∀ (rs : List (List Int)) (a : Nat) (g : Int), g ≤ G → (∀ b ∈ rs, b.length ≤ 9223372036854775696) → (∀ i, i < (secsR G a rs).length → l[a + i]? = (secsR G a rs)[i]?) →
    Chn l a g rs (a + (secsR G a rs).length) (if rs = [] then g else G)
  | [], a, g, _, _, _ => by simp only [secsR, List.length_nil, Nat.add_zero, if_true]; exact .nil a g
  | b :: r, a, g, hg, hb, hl => by
    have e1 : secsR G a (b :: r) = secsB G a b ++ secsR G (a + sectK b) r := rfl
    have hbb := hb b (List.mem_cons_self ..)
    have hl1 : ∀ k, k < sectK b → l[a + k]? = (secsB G a b)[k]? := fun k hk => by
      rw [hl k (by rw [e1]; simp only [List.length_append, secsB_len]; omega), e1, List.getElem?_append_left (by rw [secsB_len]; exact hk)]
    have h1 := recGo_new (last := g) hbb hG hg hl1 (sectK b) 0 rfl (sectK_pos b)
    have h2 := chn_new hG r (a + sectK b) G (Int.le_refl _) (fun x hx => hb x (List.mem_cons_of_mem _ hx)) (fun i hi => by
      have := hl (sectK b + i) (by rw [e1]; simp only [List.length_append, secsB_len]; omega)
      rw [e1, List.getElem?_append_right (by rw [secsB_len]; omega), secsB_len, Nat.add_sub_cancel_left, ← Nat.add_assoc] at this
      exact this)
    have hn : num4 (l.getD a []) = G := by
      have h0 := (hl1 0 (sectK_pos b)).trans (secsB_get (sectK_pos b))
      rw [List.getD_eq_getElem?_getD, show l[a]? = _ from h0]
      exact (enc_parts G _ _ (cutB_len b 0) ⟨by omega, hG.2⟩).1
    rw [if_neg (List.cons_ne_nil _ _), e1]
    simp only [List.length_append, secsB_len]
    rw [← Nat.add_assoc]
    refine .cons (by simpa using h1) ?_
    rw [hn]
    split at h2
    · exact h2
    · exact h2
theorem secsR_app (G : Int) : ∀ (r s : List (List Int)) (a : Nat), secsR G a (r ++ s) = secsR G a r ++ secsR G (a + (secsR G a r).length) s
  | [], s, a => by simp [secsR]
  | b :: r, s, a => by
    simp only [List.cons_append, secsR, List.append_assoc, List.length_append, secsB_len]
    rw [secsR_app G r s (a + sectK b), ← Nat.add_assoc]
/-- so many sectors are written: which records are whole -/
theorem cut_at (G : Int) : ∀ (rs : List (List Int)) (a m : Nat), m < (secsR G a rs).length → ∃ r1 b r2, rs = r1 ++ b :: r2 ∧ (secsR G a r1).length ≤ m ∧ m < (secsR G a r1).length + sectK b
  | [], a, m, h => by simp [secsR] at h
  | b :: r, a, m, h => by
    by_cases h1 : m < sectK b
    · exact ⟨[], b, r, rfl, Nat.zero_le _, by simpa [secsR] using h1⟩
    · simp only [secsR, List.length_append, secsB_len] at h
      obtain ⟨r1, b', r2, e, h2, h3⟩ := cut_at G r (a + sectK b) (m - sectK b) (by omega)
      refine ⟨b :: r1, b', r2, by rw [e]; rfl, ?_, ?_⟩
      · simp only [secsR, List.length_append, secsB_len]; omega
      · simp only [secsR, List.length_append, secsB_len]; omega

/-- writes one behind the other -/
theorem perform_row : ∀ (ws ss : List (List Int)) (a i : Nat), a + ws.length ≤ ss.length → (performD ss (pendL a ws))[i]? = if a ≤ i ∧ i < a + ws.length then ws[i - a]? else ss[i]?
  | [], ss, a, i, _ => by
    rw [if_neg (by simp only [List.length_nil]; omega)]
    rfl
  | x :: ws, ss, a, i, h => by
    have e : performD ss (pendL a (x :: ws)) = performD (ss.set a x) (pendL (a + 1) ws) := by
      simp only [pendL, performD, List.foldl_cons, Int.toNat_natCast]
    simp only [List.length_cons] at h
    rw [e, perform_row ws (ss.set a x) (a + 1) i (by simp only [List.length_set]; omega)]
    by_cases h1 : a = i
    · subst h1
      rw [if_neg (by omega), if_pos (by simp only [List.length_cons]; omega), List.getElem?_set_self (by omega)]
      simp
    · by_cases h2 : a + 1 ≤ i ∧ i < a + 1 + ws.length
      · rw [if_pos h2, if_pos (by simp only [List.length_cons]; omega), show i - a = (i - (a + 1)) + 1 by omega]
        rfl
      · rw [if_neg h2, if_neg (by simp only [List.length_cons]; omega), List.getElem?_set_ne h1]
theorem pendL_take : ∀ (ws : List (List Int)) (a m : Nat), (pendL a ws).take m = pendL a (ws.take m)
  | [], a, m => by simp [pendL]
  | x :: ws, a, 0 => by simp [pendL]
  | x :: ws, a, m + 1 => by simp [pendL, pendL_take ws (a + 1) m]
theorem pendL_get : ∀ (ws : List (List Int)) (a m : Nat), m < ws.length → (pendL a ws).getD m (0, []) = (((a + m : Nat) : Int), ws.getD m [])
  | [], a, m, h => by simp at h
  | x :: ws, a, 0, h => by simp [pendL]
  | x :: ws, a, m + 1, h => by
    have := pendL_get ws (a + 1) m (by simpa using h)
    simp only [pendL, List.getD_cons_succ, this, Prod.mk.injEq, and_true]
    omega

def sumK (rs : List (List Int)) : Nat := (rs.map sectK).sum
theorem sumK_app (r s : List (List Int)) : sumK (r ++ s) = sumK r + sumK s := by simp [sumK]
theorem secsR_sum (G : Int) : ∀ (rs : List (List Int)) (a : Nat), (secsR G a rs).length = sumK rs
  | [], a => rfl
  | b :: r, a => by simp [secsR, secsB_len, secsR_sum G r, sumK]
theorem used_sum : ∀ (rs : List (List Int)) (x : Nat), x + sumK rs ≤ 9223372036854775807 → rs.foldl (fun u b => wrap64 (u + sectN b.length)) (x : Int) = ((x + sumK rs : Nat) : Int)
  | [], x, _ => by simp [sumK]
  | b :: r, x, h => by
    have e1 : sumK (b :: r) = sectK b + sumK r := by simp [sumK]
    have e2 := sectK_int b
    rw [e1] at h ⊢
    rw [List.foldl_cons, ← e2]
    rw [show wrap64 ((x : Int) + (sectK b : Nat)) = ((x + sectK b : Nat) : Int) by rw [IntWalk.wrap64_in _ ⟨by omega, by omega⟩]; simp, used_sum r (x + sectK b) (by omega)]
    congr 1
    omega
theorem usedR_sum {rs : List (List Int)} (h : sumK rs ≤ 9223372036854775807) : usedR rs = sumK rs := by
  have := used_sum rs 0 (by omega)
  simpa [usedR] using this
theorem Chn.sum {l : List (List Int)} (hl : ∀ s ∈ l, s.length = 128 ∧ Byt s) (h96 : l.length ≤ 4096) {a e : Nat} {g g' : Int} {rs : List (List Int)} (h : Chn l a g rs e g') (ha : a ≤ l.length) : a + sumK rs = e := by
  induction h with
  | nil => simp [sumK]
  | cons h _ ih =>
    obtain ⟨h1, h2, h3⟩ := recGo_sect hl h96 ha h
    have := ih h2
    have e1 : ∀ b r, sumK (b :: r) = sectK b + sumK r := fun b r => by simp [sumK]
    rw [e1]
    unfold sectK
    omega
end Go.Proofs.Ytgbkhmoplocmkaa
