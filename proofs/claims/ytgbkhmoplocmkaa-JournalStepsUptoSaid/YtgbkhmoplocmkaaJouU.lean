/- Journals: plain: the sectors that records occupy; the boxes of Sync. -/
import Derived.Test.YtgbkhmoplocmkaaJouQ
namespace Go.Proofs.Ytgbkhmoplocmkaa
open Go.RowKit Go.Shelf
set_option linter.unusedSimpArgs false
set_option linter.unusedVariables false
set_option maxRecDepth 20000

theorem Se.take {w : World} {P : Nat → Prop} {J : Option Addr} {n c m : Nat} {ss : List (List Int)} (h : Se w P ⟨J, n, c⟩ ss) (hm : m ≤ ss.length) : Se w P ⟨J, m, c⟩ (ss.take m) := by
  obtain ⟨vs, ⟨h1, h2, h3, h4, h5, h6⟩, h7, h8⟩ := h
  simp only at h1 h2 h3 h4 h5 h6
  refine ⟨vs.take m, ⟨by simp; omega, by simp only; omega, h3, h4, h5.take, fun hp a e => h6 (by rw [List.length_take] at hp; omega) a e⟩, by simp; omega, fun i v bs a b => ?_⟩
  rw [List.getElem?_take] at a b
  split at a
  · rw [if_pos (by assumption)] at b
    exact h8 i v bs a b
  · cases a
theorem Se.cap {w : World} {P : Nat → Prop} {s : Sl} {ss : List (List Int)} (h : Se w P s ss) : ss.length ≤ s.c ∧ s.c ≤ 9223372036854775807 := by
  obtain ⟨vs, h1, h2, _⟩ := h
  have a := h1.1
  have b := h1.2.1
  have c := h1.2.2.1
  simp only [maxLen] at c
  omega
theorem Se.bytes {w : World} {P : Nat → Prop} {s : Sl} {ss : List (List Int)} (h : Se w P s ss) : ∀ x ∈ ss, Byt x := fun x hx => by
  obtain ⟨i, hi, rfl⟩ := List.getElem_of_mem hx
  obtain ⟨_, _, v, bs, _, _, hs, hb, _⟩ := h.at_ hi
  rw [List.getElem?_eq_getElem hi] at hs
  cases hs
  exact hb.2

/-- a sector that can be a record's: how many bytes it holds -/
theorem good_piece {s : List Int} {k : Nat} (hs : s.length = 128) (hb : Byt s) (h : goodB s k = true) :
    (pieceB s).length ≤ 112 ∧ (endB s = false → (pieceB s).length = 112) ∧ (begB s = false → 0 < (pieceB s).length) := by
  have h11 : s.getD 11 0 = s[11] := by rw [List.getD_eq_getElem?_getD, List.getElem?_eq_getElem (by omega)]; rfl
  have hn := hb s[11] (List.getElem_mem _)
  have hl := goodB_len h
  unfold goodB shapeOk at h
  simp only [Bool.and_eq_true, Bool.not_eq_true', Bool.or_eq_false_iff, Bool.and_eq_false_iff, decide_eq_false_iff_not] at h
  obtain ⟨⟨h1, h2, h3, h4⟩, _⟩ := h
  unfold pieceB endB begB
  rw [h11] at *
  simp only [List.length_take, List.length_drop, hs]
  refine ⟨by omega, fun he => ?_, fun hbg => ?_⟩
  · rcases h3 with h3 | h3
    · rw [bne, h3] at he
      cases he
    · omega
  · rcases h4 with h4 | h4
    · rw [bne, h4] at hbg
      cases hbg
    · have : s[11] ≠ 0 := by simpa using h4
      omega
/-- a record: its bytes fill the sectors that it occupies -/
theorem recGo_fill {l : List (List Int)} {a : Nat} {last : Int} (hl : ∀ s ∈ l, s.length = 128 ∧ Byt s) : ∀ (m n : Nat) (b : List Int) (e : Nat) (b' : List Int), l.length - n = m → a ≤ n → b.length = 112 * (n - a) → recGo l a last (l.drop n) n b = some (e, b') →
    n < e ∧ e ≤ l.length ∧ b'.length ≤ 112 * (e - a) ∧ 112 * (e - a) ≤ b'.length + 112 ∧ (a + 1 < e → 112 * (e - a) < b'.length + 112)
  | m, n, b, e, b', hm, han, hbl, h => by
    by_cases hn : n < l.length
    · have hs := List.drop_eq_getElem_cons hn
      rw [hs] at h
      obtain ⟨s1, s2⟩ := hl l[n] (List.getElem_mem hn)
      simp only [recGo] at h
      split at h
      · rename_i hok
        obtain ⟨p1, p2, p3⟩ := good_piece s1 s2 (okB_good hok)
        have hbeg : begB l[n] = (n == a) := by unfold okB at hok; simp at hok; exact hok.2.1
        split at h
        · simp at h
          obtain ⟨rfl, rfl⟩ := h
          simp only [List.length_append, hbl]
          refine ⟨by omega, by omega, by omega, by omega, fun hlt => ?_⟩
          have := p3 (by rw [hbeg]; simp; omega)
          omega
        · rename_i he
          have hp := p2 (by simpa using he)
          obtain ⟨q1, q2, q3, q4, q5⟩ := recGo_fill hl (m - 1) (n + 1) (b ++ pieceB l[n]) e b' (by omega) (by omega) (by simp only [List.length_append, hbl, hp]; omega) h
          exact ⟨by omega, q2, q3, q4, q5⟩
      · cases h
    · rw [List.drop_of_length_le (by omega)] at h
      simp [recGo] at h
  termination_by m => m
theorem recGo_sect {l : List (List Int)} {a e : Nat} {last : Int} {b : List Int} (hl : ∀ s ∈ l, s.length = 128 ∧ Byt s) (h96 : l.length ≤ 4096) (ha : a ≤ l.length) (h : recGo l a last (l.drop a) a [] = some (e, b)) : a < e ∧ e ≤ l.length ∧ sectN b.length = ((e - a : Nat) : Int) := by
  obtain ⟨q1, q2, q3, q4, q5⟩ := recGo_fill hl (l.length - a) a [] e b rfl (Nat.le_refl _) (by simp) h
  refine ⟨q1, q2, ?_⟩
  rw [sectN_mid (by omega)]
  by_cases h1 : a + 1 < e
  · have := q5 h1
    omega
  · omega
theorem used_go {l : List (List Int)} (hl : ∀ s ∈ l, s.length = 128 ∧ Byt s) (h96 : l.length ≤ 4096) : ∀ (f a : Nat) (last : Int), a ≤ l.length →
    ∃ e : Nat, a ≤ e ∧ e ≤ l.length ∧ ((recsGo l f a last).map (·.2)).foldl (fun u b => wrap64 (u + sectN b.length)) (a : Int) = e
  | 0, a, last, ha => ⟨a, Nat.le_refl _, ha, rfl⟩
  | f + 1, a, last, ha => by
    cases h : recGo l a last (l.drop a) a [] with
    | none => exact ⟨a, Nat.le_refl _, ha, by simp [recsGo, h]⟩
    | some p =>
      obtain ⟨e, b⟩ := p
      obtain ⟨h1, h2, h3⟩ := recGo_sect hl h96 ha h
      obtain ⟨e', h4, h5, h6⟩ := used_go hl h96 f e (num4 (l.getD a [])) h2
      refine ⟨e', by omega, h5, ?_⟩
      rw [recsGo_some h]
      simp only [List.map_cons, List.foldl_cons]
      rw [h3, show wrap64 ((a : Int) + ((e - a : Nat) : Int)) = (e : Int) by unfold wrap64; omega]
      exact h6
theorem used_recs {l : List (List Int)} (hl : ∀ s ∈ l, s.length = 128 ∧ Byt s) (h96 : l.length ≤ 4096) : ∃ e : Nat, e ≤ l.length ∧ usedR (recsJ l) = e := by
  obtain ⟨e, _, h2, h3⟩ := used_go hl h96 (l.length + 1) 0 0 (Nat.zero_le _)
  exact ⟨e, h2, h3⟩

/-- the blocks that a disk's parts may lie in, while Sync runs -/
def QS (P : Nat → Prop) (w : World) (b : Nat) : Prop := (P b ∧ b < w.heap.size) ∨ w.heap.size + 4 ≤ b
theorem QS.start {P : Nat → Prop} {w : World} {sv pv : Sl} {d : Dk} (h : Di w P sv pv d) : Di w (QS P w) sv pv d := h.mono2 (fun b hb hl => .inl ⟨hb, hl⟩)
theorem QS.nw {P : Nat → Prop} {w W W' : World} {sv pv : Sl} {d : Dk} (h : Di W' (Nw (QS P w) W) sv pv d) (hz : w.heap.size + 4 ≤ W.heap.size) : Di W' (QS P w) sv pv d := h.mono (fun b hb => hb.elim id (fun h => .inr (by omega)))
theorem QS.done {P : Nat → Prop} {w W : World} {sv pv : Sl} {d : Dk} (h : Di W (QS P w) sv pv d) : Di W (Nw P w) sv pv d := h.mono (fun b hb => hb.imp (·.1) (fun h => by omega))
/-- the boxes of Sync -/
structure SyM (w : World) (P : Nat → Prop) (jv jm js lf st : Value) (W : World) (sv pv : Sl) (dk : Dk) : Prop where
  jb : Box3 W w.heap.size jv jm js
  db : Box4 W (w.heap.size + 1) (.slice sv.a sv.n sv.c) (.slice pv.a pv.n pv.c) lf st
  rj : Box3 W (w.heap.size + 2) (.slice none 0 0) (.int .i64 0) (.int .i64 0)
  rd : Box4 W (w.heap.size + 3) (.slice none 0 0) (.slice none 0 0) (.int .i64 0) (.bool false)
  di : Di W (QS P w) sv pv dk
  bel : Below w.heap.size w W
section
variable {w W W' : World} {P : Nat → Prop} {jv jm js lf st : Value} {sv pv : Sl} {dk : Dk}
theorem SyM.step (h : SyM w P jv jm js lf st W sv pv dk) (hb : Below W.heap.size W W') : SyM w P jv jm js lf st W' sv pv dk :=
  ⟨h.jb.step hb, h.db.step hb, h.rj.step hb, h.rd.step hb, h.di.step hb, h.bel.trans (hb.mono h.bel.size)⟩
theorem SyM.drew (h : SyM w P jv jm js lf st W sv pv dk) : SyM w P jv jm js lf st W.drew sv pv dk := h.step (Below.refl _ _).drew
/-- behind calls and the store of another disk -/
theorem SyM.put (h : SyM w P jv jm js lf st W sv pv dk) (hb : Below W.heap.size W W') {s p : Sl} {dk' : Dk} (hd : Di W' (QS P w) s p dk') (l2 b2 : Value) :
    SyM w P jv jm js l2 b2 (put4 W' (w.heap.size + 1) (.slice s.a s.n s.c) (.slice p.a p.n p.c) l2 b2) s p dk' := by
  obtain ⟨h1, h2, h3, h4, h5, h6⟩ := h.step hb
  have hk := fun v0 v1 v2 v3 => put4_keep (W := W') (b := w.heap.size + 1) v0 v1 v2 v3
  exact ⟨h1.far (hk _ _ _ _) (by simp), h2.put _ _ _ _, h3.far (hk _ _ _ _) (by simp), h4.far (hk _ _ _ _) (by simp),
    hd.keep (Kp.of_grown (hk _ _ _ _) (fun h => by unfold QS at h; omega)), put4_below h6 (by omega) _ _ _ _⟩
end
/-- a header moved on -/
theorem By.from_ {w : World} {P : Nat → Prop} {A : Option Addr} {n c : Nat} {bs : List Int} (h : By w P ⟨A, n, c⟩ bs) {k : Nat} (hk : k ≤ n) : By w P ⟨if c = k then A else A.map (·.add k), n - k, c - k⟩ (bs.drop k) := by
  obtain ⟨⟨h1, h2, h3, h4, h5, h6⟩, h7⟩ := h
  simp only at h1 h2 h3 h4 h5 h6
  refine ⟨⟨by simp; omega, by simp only; omega, by simp only; omega, fun ha => ?_, ?_, fun hp a ha => ?_⟩, fun b hb => h7 b (List.mem_of_mem_drop hb)⟩
  · simp only at ha ⊢
    split at ha
    · omega
    · have := h4 (by cases A <;> simp_all)
      omega
  · have := h5.drop (k := k) (c := c) (by omega) (by omega)
    simpa using this
  · rw [List.length_drop] at hp
    simp only at ha
    split at ha
    · omega
    · obtain ⟨b, off, e, _⟩ := h5 (by omega)
      have h8 := h6 (by omega) _ e
      subst e
      simp [Go.WideShapes.add_plain] at ha
      subst ha
      exact h8
theorem By.upto {w : World} {P : Nat → Prop} {A : Option Addr} {n c : Nat} {bs : List Int} (h : By w P ⟨A, n, c⟩ bs) {k : Nat} (hk : k ≤ n) : By w P ⟨A, k, c⟩ (bs.take k) := by
  obtain ⟨⟨h1, h2, h3, h4, h5, h6⟩, h7⟩ := h
  simp only at h1 h2 h3 h4 h5 h6
  exact ⟨⟨by simp; omega, by simp only; omega, h3, h4, h5.take, fun hp a ha => h6 (by rw [List.length_take] at hp; omega) a ha⟩, fun b hb => h7 b (List.mem_of_mem_take hb)⟩
end Go.Proofs.Ytgbkhmoplocmkaa
