/- TopDegree, what its proof leans on: the texts Seq2. -/
import Derived.Test.YtalmbigebjbaoaaGreatDoorM02
namespace Go.Proofs.YtalmbigebjbaoaaGreatDoor
open Go.RowKit
set_option linter.unusedSimpArgs false
set_option linter.unusedVariables false
def Keep2 (B : Nat) (free : Nat → Prop) (W W' : World) : Prop := W.heap.size ≤ W'.heap.size ∧ ∀ b, b < W.heap.size → ¬ free b → ¬ (B ≤ b ∧ b < B + 2) → W'.heap[b]? = W.heap[b]?
section
variable {B : Nat} {free : Nat → Prop} {X Y Z : World}
theorem Keep2.refl (B : Nat) (free : Nat → Prop) (X : World) : Keep2 B free X X := ⟨Nat.le_refl _, fun _ _ _ _ => rfl⟩
theorem Keep2.trans (h : Keep2 B free X Y) (k : Keep2 B free Y Z) : Keep2 B free X Z := ⟨Nat.le_trans h.1 k.1, fun b hb hf hn => (k.2 b (by have := h.1; omega) hf hn).trans (h.2 b hb hf hn)⟩
theorem Keep2.below (h : Keep2 B free X Y) (hb : Below Y.heap.size Y Z) : Keep2 B free X Z := h.trans ⟨hb.size, fun b hlt _ _ => hb.block b hlt⟩
theorem Keep2.setCell (h : Keep2 B free X Y) {a : Addr} (ha : free a.block) (v : Value) : Keep2 B free X (Y.setCell a v) :=
 h.trans ⟨by simp [World.setCell], fun b hb hf _ => Below.heap_setCell _ _ _ _ (fun e => by subst e; exact hf ha)⟩
theorem Keep2.putObj (h : Keep2 B free X Y) {l : Nat} (hl : B ≤ l ∧ l < B + 2) (o : Obj) : Keep2 B free X (Y.putObj l o) :=
 h.trans ⟨by simp, fun b hb _ hn => World.putObj_heap_other (fun e => hn (by omega))⟩
end
def Iter2 {α : Type} (F : Fence) (n : Nat) (P : Program) (gf : Nat) (lb : Array Value) (encs : α → Array Value) (own : Nat → Prop) (Kp : World → World → Prop) (S Sp Pr : List α → Prop) (w : World) : Prop :=
 ∀ (l : Nat) (J Jx : List α → World → Prop) (W : World), Below w.heap.size w W → w.heap.size + 2 ≤ W.heap.size → Steady own J → Steady own Jx →
   (∀ pre x W1, J pre W1 → Pr (pre ++ [x]) → YieldAt F (n - 1) P l (encs x) W1 fun e W' => (e = .returned (.bool true) ∧ J (pre ++ [x]) W' ∧ Kp W1 W') ∨ (e = .returned (.bool false) ∧ Jx (pre ++ [x]) W')) →
   J [] W →
   CallsIn F n P gf (#[.func (.yield l) #[] #[]] ++ lb) W fun e W' => (∃ v, e = .returned v) ∧ ((∃ xs, S xs ∧ J xs W') ∨ (∃ pre, Sp pre ∧ Jx pre W'))
section
variable {F : Fence} {n : Nat} {P : Program}
theorem wpIn_seq2 {α : Type} {g : Operand} {ps : Array Tmp} {assign body : Code} {Q : Exit → Act → World → Prop} {a : Act} {w : World}
 (hro : F.round = none) (h1 : 1 ≤ n) {gf : Nat} {lb : Array Value} (hg : a.eval g = .func (.func gf) #[] lb) (hFg : F.fn gf) (eg : ∀ args w, (callFunc gf args).run P w = .ok (.enter gf args) w)
 {encs : α → Array Value} {own free : Nat → Prop} (hown : ∀ b, own b → b < w.heap.size) {S Sp Pr : List α → Prop}
 (hit : Iter2 F (n - 1) P gf lb encs own (Keep2 w.heap.size free) S Sp Pr w) (hps : ∀ x, (encs x).size = ps.size)
 (I : List α → World → Prop) (Ix : Code → List α → World → Prop) (hI : OwnFrom w.heap.size I) (hIx : ∀ c, OwnFrom w.heap.size (Ix c))
 (hIo : ∀ pre W a v, I pre W → own a.block → I pre (W.setCell a v)) (hIxo : ∀ c pre W a v, Ix c pre W → own a.block → Ix c pre (W.setCell a v))
 (h0 : I [] w) (Ax : α → Act → World → Prop) (hAx : ∀ x a' W L o o', Ax x a' W → W.heap[L]? = some o → o.isCells = false → Ax x a' (W.putObj L o'))
 (hassign : ∀ (l : Nat) (pre : List α) (x : α) (W : World) (K : Act → World → Prop), I pre W → Pr (pre ++ [x]) → w.heap.size ≤ W.heap.size →
   (∀ a' W', KeepsOthers W W' → Below W.heap.size W W' → Ax x a' W' → K a' W') →
   assign.wpIn (F.inRound l) (n - 1 - 1) P (Exit.then K (fun _ _ _ => False)) { tmps := (ps.zip (encs x)).foldl (fun t (p, v) => t.setIfInBounds p v) a.tmps, defers := [] } W)
 (hbody : ∀ (l : Nat) (pre : List α) (x : α) (a' : Act) (W : World), I pre W → Pr (pre ++ [x]) → w.heap.size + 2 ≤ W.heap.size → Ax x a' W → body.wpIn (F.inRound l) (n - 1 - 1) P (roundPost (Keep2 w.heap.size free) I Ix (pre ++ [x]) W) a' W)
 (hdone : ∀ (D : Nat) (xs : List α) (W : World), w.heap.size ≤ D → S xs → I xs W → W.heap[D]? = some (.deferred (some [])) → Q .normal { a with defers := { target := .collected D, args := #[] } :: a.defers } W)
 (hstop : ∀ (D : Nat) (c : Code) (pre : List α) (W : World), w.heap.size ≤ D → Sp pre → Ix c pre W → W.heap[D]? = some (.deferred (some [])) → c.wpIn F n P Q { a with defers := { target := .collected D, args := #[] } :: a.defers } W) :
 (Code.rangeFunc g ps assign body).wpIn F n P Q a w := by
 refine wpIn_rangeFunc ?_
 intro fn hfn
 rw [hro]
 let rec_ : LoopState → Option Code → Loop := fun st pe => { state := st, pending := pe, fn, tmps := a.tmps, params := ps, assign, body, defers := w.heap.size }
 obtain ⟨L, hL⟩ : ∃ L, L = w.heap.size + 1 := ⟨_, rfl⟩
 obtain ⟨W1, hW1⟩ : ∃ W1, (w.alloc (.deferred (some []))).alloc (.loop (rec_ .ready none)) = W1 := ⟨_, rfl⟩
 have hz1 : W1.heap.size = w.heap.size + 2 := by rw [← hW1]; simp
 have hL1 : W1.heap[L]? = some (.loop (rec_ .ready none)) := by
  have := World.alloc_heap_new (w.alloc (.deferred (some []))) (.loop (rec_ .ready none))
  rw [World.size_alloc, hW1, ← hL] at this; exact this
 have hD1 : W1.heap[w.heap.size]? = some (.deferred (some [])) := by
  rw [← hW1]; exact (Below.heap_alloc _ _ _ (by simp)).trans (World.alloc_heap_new w _)
 have hb1 : Below w.heap.size w W1 := by rw [← hW1]; exact ((Below.refl _ w).alloc (Nat.le_refl _) _).alloc (by simp) _
 have hI1 : I [] W1 := by rw [← hW1]; exact hI.alloc _ (hI.alloc _ h0)
 refine ⟨L, [{ target := .collected w.heap.size, args := #[] }], W1, { target := .fn (.func gf) lb, args := #[.func (.yield L) #[] #[]] }, W1, gf,
  #[.func (.yield L) #[] #[]] ++ lb, W1, ?_, ?_, ?_, ?_, fun _ => h1, ?_⟩
 ·rw [← hW1, hL]; exact run_enterLoop_outer _ _ _ _ _
 ·simp only [resolve, hg]
  simp [go_sem]
 ·intro f' hf'; simp [Target.leads] at hf'; subst hf'; exact hFg
 ·simp [invoke, go_sem, eg]
 ·have steady : ∀ (J : List α → World → Prop) (st : LoopState) (c : Option Code), OwnFrom w.heap.size J → (∀ pre W a v, J pre W → own a.block → J pre (W.setCell a v)) →
   Steady own (fun pre W => J pre W ∧ W.heap[L]? = some (.loop (rec_ st c)) ∧ W.heap[w.heap.size]? = some (.deferred (some []))) := by
   intro J st c hJ hJo
   refine ⟨fun pre W W' ⟨hj, hl, hd⟩ hb => ⟨hJ pre W W' none hj (grownBy_of_below hb) (fun r e => by cases e), ?_, ?_⟩, fun pre W ad v ⟨hj, hl, hd⟩ ho => ⟨hJo pre W ad v hj ho, ?_, ?_⟩⟩
   ·rw [hb.block L (Array.getElem?_eq_some_iff.1 hl).1]; exact hl
   ·rw [hb.block _ (Array.getElem?_eq_some_iff.1 hd).1]; exact hd
   ·rw [Below.heap_setCell _ _ _ _ (by have := hown _ ho; omega)]; exact hl
   ·rw [Below.heap_setCell _ _ _ _ (by have := hown _ ho; omega)]; exact hd
  have hcall := hit L (fun pre W => I pre W ∧ W.heap[L]? = some (.loop (rec_ .ready none)) ∧ W.heap[w.heap.size]? = some (.deferred (some [])))
   (fun pre W => ∃ c, Ix c pre W ∧ W.heap[L]? = some (.loop (rec_ .done (some c))) ∧ W.heap[w.heap.size]? = some (.deferred (some [])))
   W1 hb1 (by omega) (steady I .ready none hI hIo)
   ⟨fun pre W W' ⟨c, h⟩ hb => ⟨c, (steady (Ix c) .done (some c) (hIx c) (hIxo c)).1 pre W W' h hb⟩, fun pre W ad v ⟨c, h⟩ ho => ⟨c, (steady (Ix c) .done (some c) (hIx c) (hIxo c)).2 pre W ad v h ho⟩⟩
   ?_ ⟨hI1, hL1, hD1⟩
  ·refine hcall.mono ?_
   rintro e W2 ⟨⟨v, rfl⟩, (⟨xs, hS, hi, hl, hk⟩ | ⟨pre, hSp, c, hi, hl, hk⟩)⟩
   ·exact ⟨none, _, run_endLoop (P := P) hl (by simp [rec_]), hdone _ xs _ (Nat.le_refl _) hS (hI.putObj _ hi (by omega) hl rfl) ((World.putObj_heap_other (by omega)).trans hk)⟩
   ·exact ⟨some c, _, run_endLoop (P := P) hl (by simp [rec_]), hstop _ c pre _ (Nat.le_refl _) hSp ((hIx c).putObj _ hi (by omega) hl rfl) ((World.putObj_heap_other (by omega)).trans hk)⟩
  ·rintro pre x W ⟨hi, hl, hk⟩ hpr
   have hlt : L < W.heap.size := (Array.getElem?_eq_some_iff.1 hl).1
   refine ⟨fn, _, assign, body, run_yield (P := P) (args := encs x) hl (hps x), roundIn_of_wpIn hfn ?_⟩
   refine hassign _ pre x W _ hi hpr (by omega) (fun a' W2 hko0 hb2 hax => ?_)
   have hl1 := hko0.same _ _ hl rfl
   have hk1 := hko0.same _ _ hk rfl
   have hi2 : I pre W2 := hI pre W W2 none hi (grownBy_of_below hb2) (fun r e => by cases e)
   have hsz2 := hb2.size
   obtain ⟨W3, hW3⟩ : ∃ W3, W2.putObj L (.loop { rec_ .ready none with state := .busy }) = W3 := ⟨_, rfl⟩
   have hz3 : W3.heap.size = W2.heap.size := by rw [← hW3]; simp
   have hi3 : I pre W3 := by rw [← hW3]; exact hI.putObj _ hi2 (by omega) hl1 rfl
   have hl2 : W3.heap[L]? = some (.loop { rec_ .ready none with state := .busy }) := by rw [← hW3]; exact World.putObj_heap_same (by omega)
   have hk2 : W3.heap[w.heap.size]? = some (.deferred (some [])) := by rw [← hW3]; exact (World.putObj_heap_other (by omega)).trans hk1
   have hw3 : Keep2 w.heap.size free W W3 := by rw [← hW3]; exact ((Keep2.refl _ _ W).below hb2).putObj (by omega) _
   refine ⟨W3, by rw [← hW3]; exact run_beginRound hl1 rfl, ?_⟩
   refine wpIn_mono (hbody _ pre x a' W3 hi3 hpr (by omega) (by rw [← hW3]; exact hAx x a' W2 L _ _ hax hl1 rfl)) ?_
   have fin : ∀ (jump : Option Code) (W4 : World), KeepsOthers W3 W4 →
    (Instr.endRound L jump).run P W4 = .ok (.bool jump.isNone) (W4.putObj L (.loop (rec_ (if jump.isNone then .ready else .done) jump))) ∧
    (∃ o, W4.heap[L]? = some o ∧ o.isCells = false) ∧
    (W4.putObj L (.loop (rec_ (if jump.isNone then .ready else .done) jump))).heap[L]? = some (.loop (rec_ (if jump.isNone then .ready else .done) jump)) ∧
    (W4.putObj L (.loop (rec_ (if jump.isNone then .ready else .done) jump))).heap[w.heap.size]? = some (.deferred (some [])) := fun jump W4 hk4 => by
    have hl4 := hk4.same _ _ hl2 rfl
    have hd4 := hk4.same _ _ hk2 rfl
    exact ⟨run_endRound (P := P) jump hl4, ⟨_, hl4, rfl⟩, World.putObj_heap_same (Array.getElem?_eq_some_iff.1 hl4).1, (World.putObj_heap_other (by omega)).trans hd4⟩
   rintro e a3 W4 hp
   cases e with
   | normal =>
     obtain ⟨hk4, hkp4, hi4⟩ := hp
     obtain ⟨hr, ⟨o, hl4, ho4⟩, hl5, hd5⟩ := fin none W4 hk4
     exact ⟨_, _, hr, .inl ⟨rfl, ⟨hI.putObj _ hi4 (by omega) hl4 ho4, hl5, hd5⟩, (hw3.trans hkp4).putObj (by omega) _⟩⟩
   | ret =>
     obtain ⟨hk4, hi4⟩ := hp
     obtain ⟨hr, ⟨o, hl4, ho4⟩, hl5, hd5⟩ := fin (some .ret) W4 hk4
     exact ⟨_, _, hr, .inr ⟨rfl, .ret, (hIx _).putObj _ hi4 (by omega) hl4 ho4, hl5, hd5⟩⟩
   | exit id =>
     obtain ⟨hk4, hi4⟩ := hp
     obtain ⟨hr, ⟨o, hl4, ho4⟩, hl5, hd5⟩ := fin (some (.exit id)) W4 hk4
     exact ⟨_, _, hr, .inr ⟨rfl, .exit id, (hIx _).putObj _ hi4 (by omega) hl4 ho4, hl5, hd5⟩⟩
   | goto t =>
     obtain ⟨hk4, hi4⟩ := hp
     obtain ⟨hr, ⟨o, hl4, ho4⟩, hl5, hd5⟩ := fin (some (.goto t)) W4 hk4
     exact ⟨_, _, hr, .inr ⟨rfl, .goto t, (hIx _).putObj _ hi4 (by omega) hl4 ho4, hl5, hd5⟩⟩
   | panic ch => exact hp.elim
   | outgrown => exact hp.elim
theorem wpIn_seqG {α : Type} {g : Operand} {ps : Array Tmp} {assign body : Code} {Q : Exit → Act → World → Prop} {a : Act} {w : World}
 (hro : F.round = none) (h1 : 1 ≤ n) {gf : Nat} {lb : Array Value} (hg : a.eval g = .func (.func gf) #[] lb) (hFg : F.fn gf) (eg : ∀ args w, (callFunc gf args).run P w = .ok (.enter gf args) w)
 {encs : α → Array Value} {own free : Nat → Prop} (hown : ∀ b, own b → b < w.heap.size) {S Sp Pr : List α → Prop}
 (hit : Iter2 F (n - 1) P gf lb encs own (Keep2 w.heap.size free) S Sp Pr w) (hps : ∀ x, (encs x).size = ps.size)
 (I : List α → World → Prop) (Ix : Code → List α → World → Prop) (hI : OwnFrom w.heap.size I) (hIx : ∀ c, OwnFrom w.heap.size (Ix c))
 (hIo : ∀ pre W a v, I pre W → own a.block → I pre (W.setCell a v)) (hIxo : ∀ c pre W a v, Ix c pre W → own a.block → Ix c pre (W.setCell a v))
 (h0 : I [] w) (G : α → Act)
 (hassign : ∀ (l : Nat) (pre : List α) (x : α) (W : World) (K : Act → World → Prop), I pre W → Pr (pre ++ [x]) → w.heap.size ≤ W.heap.size →
   (∀ W', KeepsOthers W W' → Below W.heap.size W W' → K (G x) W') →
   assign.wpIn (F.inRound l) (n - 1 - 1) P (Exit.then K (fun _ _ _ => False)) { tmps := (ps.zip (encs x)).foldl (fun t (p, v) => t.setIfInBounds p v) a.tmps, defers := [] } W)
 (hbody : ∀ (l : Nat) (pre : List α) (x : α) (W : World), I pre W → Pr (pre ++ [x]) → w.heap.size + 2 ≤ W.heap.size → body.wpIn (F.inRound l) (n - 1 - 1) P (roundPost (Keep2 w.heap.size free) I Ix (pre ++ [x]) W) (G x) W)
 (hdone : ∀ (D : Nat) (xs : List α) (W : World), w.heap.size ≤ D → S xs → I xs W → W.heap[D]? = some (.deferred (some [])) → Q .normal { a with defers := { target := .collected D, args := #[] } :: a.defers } W)
 (hstop : ∀ (D : Nat) (c : Code) (pre : List α) (W : World), w.heap.size ≤ D → Sp pre → Ix c pre W → W.heap[D]? = some (.deferred (some [])) → c.wpIn F n P Q { a with defers := { target := .collected D, args := #[] } :: a.defers } W) :
 (Code.rangeFunc g ps assign body).wpIn F n P Q a w :=
 wpIn_seq2 hro h1 hg hFg eg hown hit hps I Ix hI hIx hIo hIxo h0 (fun x a' _ => a' = G x) (fun _ _ _ _ _ _ h _ _ => h)
  (fun l pre x W K hi hp hz hK => hassign l pre x W K hi hp hz (fun W' a b => hK _ _ a b rfl))
  (fun l pre x a' W hi hp hz e => by subst e; exact hbody l pre x W hi hp hz) hdone hstop
end
end Go.Proofs.YtalmbigebjbaoaaGreatDoor
