/- A row of slices that the call itself makes, each slice read as a list; none of them lies in the row's own block. -/
import Derived.Test.YtgbkhmoplocmkaaDskM
namespace Go.Proofs.Ytgbkhmoplocmkaa
open Go.RowKit
set_option linter.unusedSimpArgs false
set_option linter.unusedVariables false
set_option maxRecDepth 20000

structure RowBy (W : World) (B : Nat) (Q : Nat → Prop) (v : Value) (vs : List Sl) (ss : List (List Int)) : Prop where
  row : Owns W B 35 1 slE v vs
  hs : HS W (fun b => Q b ∧ v.ownBlock ≠ some b) vs ss
section
variable {W W' : World} {B : Nat} {Q : Nat → Prop} {v v' : Value} {vs : List Sl} {ss : List (List Int)}
theorem HS.mem {P : Nat → Prop} (h : HS W P vs ss) : HS W (fun b => P b ∧ b < W.heap.size) vs ss := h.mono2 (fun b hb hl => ⟨hb, hl⟩)
theorem HS.keep {P : Nat → Prop} (h : HS W P vs ss) (hk : Kp P W W') : HS W' P vs ss := ⟨h.1, fun i v bs a b => (h.2 i v bs a b).keep hk⟩
theorem HS.snoc {P : Nat → Prop} (h : HS W P vs ss) {x : Sl} {bs : List Int} (hb : By W P x bs) : HS W P (vs ++ [x]) (ss ++ [bs]) := by
  refine ⟨by simp [h.1], fun i y cs hy hc => ?_⟩
  rcases Nat.lt_trichotomy i vs.length with hi | hi | hi
  · rw [List.getElem?_append_left hi] at hy
    rw [List.getElem?_append_left (by have := h.1; omega)] at hc
    exact h.2 i y cs hy hc
  · subst hi
    have e := h.1
    simp at hy
    rw [e] at hc
    simp at hc
    subst hy hc
    exact hb
  · rw [List.getElem?_eq_none (by simp; omega)] at hy
    cases hy
theorem HS.nil_ (P : Nat → Prop) : HS W P [] [] := ⟨rfl, fun i v bs h => by simp at h⟩
theorem HS.of_se {P : Nat → Prop} {s : Sl} (h : Se W P s ss) : ∃ us, SlR W P 1 slE s us ∧ HS W P us ss := by
  obtain ⟨us, h1, h2, h3⟩ := h
  exact ⟨us, h1, h2, h3⟩
theorem RowBy.nil_ (W : World) (B : Nat) (Q : Nat → Prop) : RowBy W B Q (.slice none 0 0) [] [] := ⟨Owns.nil_ _ _ _ _ _, HS.nil_ _⟩
theorem RowBy.step (h : RowBy W B Q v vs ss) (hb : Below W.heap.size W W') : RowBy W' B Q v vs ss := ⟨h.row.below hb (Nat.le_refl _), h.hs.step hb⟩
theorem RowBy.len (h : RowBy W B Q v vs ss) : vs.length = ss.length := h.hs.1
/-- behind a store or an append elsewhere -/
theorem RowBy.far (h : RowBy W B Q v vs ss) {row : Option Nat} (hg : W.grownBy W' row) (hr : ∀ b, row = some b → b < B ∧ ¬ Q b) : RowBy W' B Q v vs ss :=
  ⟨h.row.kept hg (fun g hg' e => by have := hr g e; have := h.row.base_le g hg'; omega), h.hs.keep (Kp.of_grown2 hg (fun b hb e => (hr b e.symm).2 hb.1))⟩
/-- behind the append of one slice -/
theorem RowBy.append {x : Sl} {bs : List Int} (h : RowBy W B Q v vs ss) (hx : By W (fun b => Q b ∧ b < W.heap.size ∧ v.ownBlock ≠ some b) x bs)
    (ho : Owns W' B 35 1 slE v' (vs ++ [x])) (hg : W.grownBy W' v.ownBlock) (hv : v'.ownBlock = v.ownBlock ∨ ∃ n, v'.ownBlock = some n ∧ W.heap.size ≤ n) : RowBy W' B Q v' (vs ++ [x]) (ss ++ [bs]) := by
  refine ⟨ho, ?_⟩
  have h1 : HS W (fun b => Q b ∧ b < W.heap.size ∧ v.ownBlock ≠ some b) vs ss := h.hs.mono2 (fun b hb hl => ⟨hb.1, hl, hb.2⟩)
  have h2 := (h1.snoc hx).keep (Kp.of_grown2 hg (fun b hb e => hb.2.2 e.symm))
  refine h2.mono (fun b hb => ⟨hb.1, fun e => ?_⟩)
  rcases hv with hv | ⟨n, hv, hn⟩
  · exact hb.2.2 (by rw [← hv]; exact e)
  · rw [hv] at e
    cases e
    omega
theorem RowBy.se {A : Option Addr} {n c : Nat} (h : RowBy W B Q (.slice A n c) vs ss) (P : Nat → Prop) (hP : ∀ b, B ≤ b → P b) (hQ : ∀ b, Q b → P b) : Se W P ⟨A, n, c⟩ ss :=
  ⟨vs, (SlR.of_owns slE_len h.row).mono hP, h.hs.1, fun i v bs a b => (h.hs.2 i v bs a b).mono (fun b hb => hQ b hb.1)⟩
theorem RowBy.shape (h : RowBy W B Q v vs ss) : ∃ A c, v = .slice A vs.length c ∧ (A = none → c = 0) ∧ vs.length ≤ maxLen := h.row.shape
end
end Go.Proofs.Ytgbkhmoplocmkaa
