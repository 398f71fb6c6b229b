/- Slice headers in memory, and what of them stays. -/
import Derived.Test.YtgimpbcdgfkdmaaAppLib
import Derived.Laws.Rows
namespace Go.Proofs.Ytgimpbcdgfkdmaa
open Go.RowKit
set_option linter.unusedSimpArgs false
set_option linter.unusedVariables false

/-- a slice's header -/
structure Sl where
  a : Option Addr
  n : Nat
  c : Nat
  deriving Inhabited
def Sl.v (s : Sl) : Value := .slice s.a s.n s.c
/-- a header that reads as a list; it lies in a block of the set P -/
def SlR {α : Type} (w : World) (P : Nat → Prop) (sz : Nat) (en : α → List Value) (s : Sl) (xs : List α) : Prop :=
  s.n = xs.length ∧ s.n ≤ s.c ∧ s.c ≤ maxLen ∧ (s.a = none → s.c = 0) ∧ Reads w w.heap.size s.a sz en xs ∧ (0 < xs.length → ∀ a, s.a = some a → P a.block)
/-- the blocks of P are as they were -/
def Kp (P : Nat → Prop) (w w' : World) : Prop := w.heap.size ≤ w'.heap.size ∧ ∀ b, P b → b < w.heap.size → w'.heap[b]? = w.heap[b]?
theorem Kp.of_below {P : Nat → Prop} {w w' : World} (h : Below w.heap.size w w') : Kp P w w' := ⟨h.size, fun b _ hb => h.block b hb⟩
theorem Kp.of_below' {P : Nat → Prop} {w w' : World} {B : Nat} (h : Below B w w') (hB : ∀ b, P b → b < B) : Kp P w w' := ⟨h.size, fun b hp hb => h.block b (hB b hp)⟩
theorem Kp.of_grown {P : Nat → Prop} {w w' : World} {g : Nat} (h : w.grownBy w' (some g)) (hg : ¬ P g) : Kp P w w' := ⟨h.size, fun b hb hl => h.block b hl (fun e => hg (by injection e with e; rw [e] at hb; exact hb))⟩
theorem Kp.refl (P : Nat → Prop) (w : World) : Kp P w w := ⟨Nat.le_refl _, fun _ _ _ => rfl⟩
theorem Kp.trans {P : Nat → Prop} {w w' w2 : World} (h : Kp P w w') (k : Kp P w' w2) : Kp P w w2 := ⟨Nat.le_trans h.1 k.1, fun b hb hl => (k.2 b hb (by have := h.1; omega)).trans (h.2 b hb hl)⟩
section
variable {α : Type} {w w' : World} {P Q : Nat → Prop} {sz : Nat} {en : α → List Value} {s : Sl} {xs : List α}
theorem SlR.keep (h : SlR w P sz en s xs) (hk : Kp P w w') : SlR w' P sz en s xs := by
  refine ⟨h.1, h.2.1, h.2.2.1, h.2.2.2.1, fun hn => ?_, h.2.2.2.2.2⟩
  obtain ⟨b, off, e, hlt, hc⟩ := h.2.2.2.2.1 hn
  have hP := h.2.2.2.2.2 hn _ e
  exact ⟨b, off, e, Nat.lt_of_lt_of_le hlt hk.1, fun i x j v hi hj => (World.cell?_of_block (a := ⟨b, _, none⟩) (hk.2 b hP hlt)).trans (hc i x j v hi hj)⟩
theorem SlR.step (h : SlR w P sz en s xs) (hb : Below w.heap.size w w') : SlR w' P sz en s xs := h.keep (Kp.of_below hb)
theorem SlR.mono (h : SlR w P sz en s xs) (hq : ∀ b, P b → Q b) : SlR w Q sz en s xs := ⟨h.1, h.2.1, h.2.2.1, h.2.2.2.1, h.2.2.2.2.1, fun hn a e => hq _ (h.2.2.2.2.2 hn a e)⟩
theorem SlR.reads (h : SlR w P sz en s xs) : Reads w w.heap.size s.a sz en xs := h.2.2.2.2.1
theorem SlR.nil_ (w : World) (P : Nat → Prop) (sz : Nat) (en : α → List Value) : SlR w P sz en ⟨none, 0, 0⟩ [] := ⟨rfl, Nat.le_refl _, by simp, fun _ => rfl, Reads.nil_, fun h => by simp at h⟩
theorem SlR.of_owns {base : Nat} {e : TypeId} {A : Option Addr} {n c : Nat} (hen : ∀ y, (en y).length = sz) (h : Owns w base e sz en (.slice A n c) xs) : SlR w (fun b => base ≤ b) sz en ⟨A, n, c⟩ xs := by
  have hr := h.reads hen
  rcases h.form with ⟨hv, rfl⟩ | ⟨g, cap, hv, hg, _, hm, hl⟩
  · cases hv; exact SlR.nil_ _ _ _ _
  · cases hv; exact ⟨rfl, hl, hm, (fun h => by cases h), hr, fun _ a e => by cases e; exact hg⟩
end
end Go.Proofs.Ytgimpbcdgfkdmaa
