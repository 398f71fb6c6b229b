/- Journals: plain: records in a row on sectors. -/
import Derived.Test.YtgbkhmoplocmkaaJouU
namespace Go.Proofs.Ytgbkhmoplocmkaa
open Go.RowKit Go.Shelf
set_option linter.unusedSimpArgs false
set_option linter.unusedVariables false
set_option maxRecDepth 20000

/-- records in a row: from sector a, behind a record of generation g, to sector e -/
inductive Chn (l : List (List Int)) : Nat → Int → List (List Int) → Nat → Int → Prop
  | nil (a : Nat) (g : Int) : Chn l a g [] a g
  | cons {a n : Nat} {g : Int} {b : List Int} {rs : List (List Int)} {e : Nat} {g' : Int} (h : recGo l a g (l.drop a) a [] = some (n, b)) (ht : Chn l n (num4 (l.getD a [])) rs e g') : Chn l a g (b :: rs) e g'

theorem recGo_lt {l : List (List Int)} {a : Nat} {last : Int} : ∀ (m n : Nat) (b : List Int) (e : Nat) (b' : List Int), l.length - n = m → recGo l a last (l.drop n) n b = some (e, b') → n < e ∧ e ≤ l.length
  | m, n, b, e, b', hm, h => by
    by_cases hn : n < l.length
    · rw [List.drop_eq_getElem_cons hn] at h
      simp only [recGo] at h
      split at h
      · split at h
        · simp at h
          omega
        · have := recGo_lt (m - 1) (n + 1) _ e b' (by omega) h
          omega
      · cases h
    · rw [List.drop_of_length_le (by omega)] at h
      simp [recGo] at h
  termination_by m => m
theorem Chn.len {l : List (List Int)} {a e : Nat} {g g' : Int} {rs : List (List Int)} (h : Chn l a g rs e g') : a + rs.length ≤ e ∧ (a ≤ l.length → e ≤ l.length) := by
  induction h with
  | nil => simp
  | cons h _ ih =>
    have := recGo_lt _ _ _ _ _ rfl h
    simp only [List.length_cons]
    omega
theorem Chn.app {l : List (List Int)} {a m e : Nat} {g g1 g' : Int} {rs ss : List (List Int)} (h : Chn l a g rs m g1) (h2 : Chn l m g1 ss e g') : Chn l a g (rs ++ ss) e g' := by
  induction h with
  | nil => exact h2
  | cons h _ ih => exact .cons h (ih h2)
/-- what the iterator yields: a chain that nothing goes on -/
theorem recsGo_chn {l : List (List Int)} : ∀ (f a : Nat) (g : Int), a ≤ l.length → l.length - a < f → ∃ e g', Chn l a g ((recsGo l f a g).map (·.2)) e g' ∧ recGo l e g' (l.drop e) e [] = none ∧ e ≤ l.length
  | 0, a, g, ha, hf => by omega
  | f + 1, a, g, ha, hf => by
    cases h : recGo l a g (l.drop a) a [] with
    | none => exact ⟨a, g, by simp only [recsGo, h]; exact .nil a g, h, ha⟩
    | some p =>
      obtain ⟨n, b⟩ := p
      have h1 := recGo_lt _ _ _ _ _ rfl h
      obtain ⟨e, g', h2, h3, h4⟩ := recsGo_chn f n (num4 (l.getD a [])) h1.2 (by omega)
      refine ⟨e, g', ?_, h3, h4⟩
      rw [recsGo_some h]
      exact .cons h h2
theorem chn_recsGo {l : List (List Int)} {a e : Nat} {g g' : Int} {rs : List (List Int)} (h : Chn l a g rs e g') (hn : recGo l e g' (l.drop e) e [] = none) : ∀ f, rs.length < f → (recsGo l f a g).map (·.2) = rs := by
  induction h with
  | nil a g =>
    intro f hf
    cases f with
    | zero => omega
    | succ f => simp [recsGo, hn]
  | cons h _ ih =>
    intro f hf
    cases f with
    | zero => omega
    | succ f =>
      rw [recsGo_some h]
      simp only [List.map_cons, List.length_cons] at hf ⊢
      rw [ih hn f (by omega)]
theorem recsJ_chn (l : List (List Int)) : ∃ e g, Chn l 0 0 (recsJ l) e g ∧ recGo l e g (l.drop e) e [] = none ∧ e ≤ l.length := recsGo_chn (l.length + 1) 0 0 (Nat.zero_le _) (by omega)
theorem chn_recsJ {l : List (List Int)} {e : Nat} {g : Int} {rs : List (List Int)} (h : Chn l 0 0 rs e g) (hn : recGo l e g (l.drop e) e [] = none) : recsJ l = rs := by
  have h1 := h.len
  exact chn_recsGo h hn _ (by have := h1.2 (Nat.zero_le _); omega)

/-- only the sectors of a record matter -/
theorem recGo_agree {l l' : List (List Int)} {a : Nat} {last : Int} : ∀ (m n : Nat) (b : List Int) (e : Nat) (b' : List Int), l.length - n = m → a ≤ n → recGo l a last (l.drop n) n b = some (e, b') → (∀ i, i < e → l'[i]? = l[i]?) → recGo l' a last (l'.drop n) n b = some (e, b')
  | m, n, b, e, b', hm, han, h, hl => by
    have hne := recGo_lt _ _ _ _ _ rfl h
    have hn : n < l.length := by omega
    have e1 := hl n hne.1
    have hn' : n < l'.length := by
      rw [List.getElem?_eq_getElem hn] at e1
      exact (List.getElem?_eq_some_iff.1 e1).1
    have e2 : l'[n] = l[n] := by
      rw [List.getElem?_eq_getElem hn, List.getElem?_eq_getElem hn'] at e1
      exact Option.some.inj e1
    have e3 : l'.getD a [] = l.getD a [] := by rw [List.getD_eq_getElem?_getD, List.getD_eq_getElem?_getD, hl a (by omega)]
    rw [List.drop_eq_getElem_cons hn] at h
    rw [List.drop_eq_getElem_cons hn', e2]
    simp only [recGo] at h ⊢
    have e4 : okB l' a n last l[n] = okB l a n last l[n] := by unfold okB; rw [e3]
    rw [e4]
    split at h
    · rename_i hok
      rw [if_pos hok]
      split at h
      · rename_i he
        rw [if_pos he]
        exact h
      · rename_i he
        rw [if_neg he]
        exact recGo_agree (m - 1) (n + 1) _ e b' (by omega) (by omega) h hl
    · cases h
  termination_by m => m
theorem Chn.agree {l l' : List (List Int)} {a e : Nat} {g g' : Int} {rs : List (List Int)} (h : Chn l a g rs e g') (hl : ∀ i, i < e → l'[i]? = l[i]?) : Chn l' a g rs e g' := by
  induction h with
  | nil a g => exact .nil a g
  | @cons a n g b rs e g' h ht ih =>
    have h1 := recGo_lt _ _ _ _ _ rfl h
    have h2 := ht.len
    refine .cons (recGo_agree _ a [] n b rfl (Nat.le_refl _) h (fun i hi => hl i (by omega))) ?_
    have e3 : l'.getD a [] = l.getD a [] := by rw [List.getD_eq_getElem?_getD, List.getD_eq_getElem?_getD, hl a (by omega)]
    rw [e3]
    exact ih hl
/-- the generations -/
theorem recGo_gen {l : List (List Int)} {a : Nat} {last : Int} {e : Nat} {b : List Int} (h : recGo l a last (l.drop a) a [] = some (e, b)) : last ≤ num4 (l.getD a []) ∧ l.getD a [] ∈ l := by
  have h1 := recGo_lt _ _ _ _ _ rfl h
  have hn : a < l.length := by omega
  rw [List.drop_eq_getElem_cons hn] at h
  simp only [recGo] at h
  have e3 : l.getD a [] = l[a] := by rw [List.getD_eq_getElem?_getD, List.getElem?_eq_getElem hn]; rfl
  rw [e3]
  split at h
  · rename_i hok
    unfold okB at hok
    simp at hok
    exact ⟨hok.2.2.2, List.getElem_mem hn⟩
  · cases h
theorem Chn.gen {l : List (List Int)} {a e : Nat} {g g' : Int} {rs : List (List Int)} (h : Chn l a g rs e g') : g' = g ∨ ∃ s ∈ l, g' = num4 s := by
  induction h with
  | nil => exact .inl rfl
  | cons h _ ih =>
    rcases ih with rfl | h2
    · exact .inr ⟨_, (recGo_gen h).2, rfl⟩
    · exact .inr h2
theorem genF_from : ∀ (l : List (List Int)) (x : Int), x ≤ l.foldl (fun g s => max (max g (num4 s)) (numE s)) x ∧ ∀ s ∈ l, num4 s ≤ l.foldl (fun g s => max (max g (num4 s)) (numE s)) x ∧ numE s ≤ l.foldl (fun g s => max (max g (num4 s)) (numE s)) x
  | [], x => ⟨Int.le_refl _, by simp⟩
  | t :: l, x => by
    obtain ⟨h1, h2⟩ := genF_from l (max (max x (num4 t)) (numE t))
    simp only [List.foldl_cons]
    refine ⟨by omega, fun s hs => ?_⟩
    rcases List.mem_cons.1 hs with rfl | h
    · omega
    · exact h2 s h
theorem genF_max {l : List (List Int)} {s : List Int} (h : s ∈ l) : num4 s ≤ genF l ∧ numE s ≤ genF l := (genF_from l 0).2 s h
theorem genF_pos (l : List (List Int)) : 0 ≤ genF l := (genF_from l 0).1
theorem genF_le {l : List (List Int)} {G : Int} : (∀ s ∈ l, num4 s ≤ G ∧ numE s ≤ G) → ∀ (x : Int), x ≤ G → l.foldl (fun g s => max (max g (num4 s)) (numE s)) x ≤ G := by
  induction l with
  | nil => intro _ x hx; exact hx
  | cons t l ih =>
    intro h x hx
    simp only [List.foldl_cons]
    have := h t (List.mem_cons_self ..)
    exact ih (fun s hs => h s (List.mem_cons_of_mem _ hs)) _ (by omega)
theorem genF_most {l : List (List Int)} {G : Int} (h : ∀ s ∈ l, num4 s ≤ G ∧ numE s ≤ G) (hG : 0 ≤ G) : genF l ≤ G := genF_le h 0 hG

/-- nothing goes on here -/
theorem recGo_none {l : List (List Int)} {a : Nat} {last : Int} (j : Nat) : ∀ (m n : Nat) (b : List Int), j - n = m → n ≤ j → (∀ i, n ≤ i → i < j → ∀ s, l[i]? = some s → endB s = false) → (∀ s, l[j]? = some s → okB l a j last s = false) → recGo l a last (l.drop n) n b = none
  | m, n, b, hm, hn, he, hj => by
    by_cases hl : n < l.length
    · rw [List.drop_eq_getElem_cons hl]
      simp only [recGo]
      by_cases hnj : n = j
      · subst hnj
        rw [hj _ (List.getElem?_eq_getElem hl)]
        rfl
      · have h1 := he n (Nat.le_refl _) (by omega) _ (List.getElem?_eq_getElem hl)
        rw [h1]
        split
        · simp only [Bool.false_eq_true, if_false]
          exact recGo_none j (m - 1) (n + 1) _ (by omega) (by omega) (fun i h => he i (by omega)) hj
        · rfl
    · rw [List.drop_of_length_le (by omega)]
      rfl
  termination_by m => m

/-- the fields of a sector written -/
theorem enc_parts (g n kd : Int) {b : List Int} (hl : b.length ≤ 112) (hg : 0 ≤ g ∧ g < 4294967296) :
    num4 (encB g n kd b) = g ∧ numE (encB g n kd b) = g ∧ (encB g n kd b).getD 10 0 = kd ∧ (encB g n kd b).getD 11 0 = b.length ∧ pieceB (encB g n kd b) = b := by
  have e1 : encB g n kd b = beB g 4 ++ (beB (sumB (bodyB n kd b)) 4 ++ (beB n 2 ++ (kd :: (b.length : Int) :: (b ++ (List.replicate (112 - b.length) 0 ++ beB g 4))))) := by
    unfold encB
    conv => lhs; rw [show bodyB n kd b ++ beB g 4 = beB n 2 ++ (kd :: (b.length : Int) :: (b ++ (List.replicate (112 - b.length) 0 ++ beB g 4))) by unfold bodyB; simp]
  have l1 := beB_len g 4
  have l2 := beB_len (sumB (bodyB n kd b)) 4
  have l3 := beB_len n 2
  have h10 : (encB g n kd b).drop 10 = kd :: (b.length : Int) :: (b ++ (List.replicate (112 - b.length) 0 ++ beB g 4)) := by
    rw [e1, ← List.append_assoc, ← List.append_assoc, parts_drop _ _ (by simp [l1, l2, l3])]
  have h12 : (encB g n kd b).drop 12 = b ++ (List.replicate (112 - b.length) 0 ++ beB g 4) := by
    rw [show (12 : Nat) = 10 + 2 from rfl, ← List.drop_drop, h10]
    rfl
  have h11 : (encB g n kd b).getD 11 0 = b.length := by
    rw [List.getD_eq_getElem?_getD, show (11 : Nat) = 10 + 1 from rfl, ← List.getElem?_drop, h10]
    rfl
  refine ⟨?_, ?_, ?_, h11, ?_⟩
  · unfold num4
    rw [e1, parts_A l1]
    exact numB_beB g 4 hg.1 (by have := hg.2; simpa using this)
  · unfold numE
    rw [show (124 : Nat) = 12 + 112 from rfl, ← List.drop_drop, h12, ← List.append_assoc, parts_drop _ _ (by simp; omega), List.take_of_length_le (by omega)]
    exact numB_beB g 4 hg.1 (by have := hg.2; simpa using this)
  · rw [List.getD_eq_getElem?_getD, show (10 : Nat) = 10 + 0 from rfl, ← List.getElem?_drop, h10]
    rfl
  · unfold pieceB
    rw [h11, h12, Int.toNat_natCast]
    simp
theorem good_enc {g n kd : Int} {b : List Int} (hl : b.length ≤ 112) (hg : 0 < g ∧ g < 4294967296) (hs : shapeOk b.length kd = true) : goodB (encB g n kd b) n = true := by
  obtain ⟨h1, h2, h3, h4, h5⟩ := enc_parts g n kd hl ⟨by omega, hg.2⟩
  unfold goodB
  unfold pieceB at h5
  rw [h5, h4, h3]
  unfold num4 at h1
  rw [h1, hs]
  simp
  exact hg.1
/-- a good sector tells its generation twice -/
theorem good_twice {s : List Int} {n : Int} (hb : Byt s) (h : goodB s n = true) : num4 s = numE s := by
  have hr : 0 ≤ num4 s ∧ num4 s < 4294967296 := num_4 hb 0
  unfold goodB at h
  simp only [Bool.and_eq_true, decide_eq_true_eq] at h
  obtain ⟨h0, _, h2⟩ := h
  have hl : ((s.drop 12).take (s.getD 11 0).toNat).length ≤ 112 := by
    unfold shapeOk at h0
    simp at h0
    simp
    omega
  have h3 := (enc_parts (num4 s) n (s.getD 10 0) hl hr).2.1
  unfold num4 at h3
  rw [← h2] at h3
  exact h3.symm
theorem kind_parts (k K : Nat) : (bits .and .u8 (kindK k K) 1 != 0) = (k == 0) ∧ (bits .and .u8 (kindK k K) 2 != 0) = (k + 1 == K) ∧ kindK k K ≤ 3 := by
  unfold kindK
  by_cases h1 : k = 0
  · have b1 : (k == 0) = true := by simpa using h1
    by_cases h2 : k + 1 = K
    · have b2 : (k + 1 == K) = true := by simpa using h2
      rw [if_pos h1, if_pos h2, b1, b2]
      decide +kernel
    · have b2 : (k + 1 == K) = false := by simpa using h2
      rw [if_pos h1, if_neg h2, b1, b2]
      decide +kernel
  · have b1 : (k == 0) = false := by simpa using h1
    by_cases h2 : k + 1 = K
    · have b2 : (k + 1 == K) = true := by simpa using h2
      rw [if_neg h1, if_pos h2, b1, b2]
      decide +kernel
    · have b2 : (k + 1 == K) = false := by simpa using h2
      rw [if_neg h1, if_neg h2, b1, b2]
      decide +kernel
theorem piece_len {b : List Int} (h : b.length ≤ 9223372036854775696) {k : Nat} (hk : k < sectK b) : (k + 1 = sectK b ∨ (cutB b k).length = 112) ∧ (k = 0 ∨ 0 < (cutB b k).length) := by
  have h1 := sectN_mid h
  have h2 := sectK_int b
  unfold cutB
  simp only [List.length_take, List.length_drop]
  omega
theorem shape_kind {b : List Int} (h : b.length ≤ 9223372036854775696) {k : Nat} (hk : k < sectK b) : shapeOk (cutB b k).length (kindK k (sectK b)) = true := by
  obtain ⟨h1, h2, h3⟩ := kind_parts k (sectK b)
  obtain ⟨p1, p2⟩ := piece_len h hk
  have p3 := cutB_len b k
  unfold shapeOk
  have e1 : (bits .and .u8 (kindK k (sectK b)) 2 == 0) = !(k + 1 == sectK b) := by rw [← h2]; simp [bne]
  have e2 : (bits .and .u8 (kindK k (sectK b)) 1 == 0) = !(k == 0) := by rw [← h1]; simp [bne]
  rw [e1, e2]
  simp only [Bool.not_eq_true', Bool.or_eq_false_iff, Bool.and_eq_false_iff, decide_eq_false_iff_not, Bool.not_eq_false', beq_iff_eq, beq_eq_false_iff_ne]
  refine ⟨by omega, by omega, ?_, ?_⟩
  · rcases p1 with h | h
    · exact .inl h
    · exact .inr (by omega)
  · rcases p2 with h | h
    · exact .inl h
    · exact .inr (by omega)
end Go.Proofs.Ytgbkhmoplocmkaa
