/- DiskHistory: an array of four bytes in a box that is written a cell at a time; the waiting acts. -/
import Derived.Test.YtebbmplbpgilaaaDskX
namespace Go.Proofs.Ytebbmplbpgilaaa
open Go.RowKit Go.Shelf
set_option linter.unusedSimpArgs false
set_option linter.unusedVariables false

/-- four bytes, in a box -/
structure Arr (W : World) (b : Nat) (L : List Int) : Prop where
  len : L.length = 4
  cell : ∀ k : Nat, k < 4 → W.cell? ⟨b, k, none⟩ = some (.int .u8 (L.getD k 0))
  free : ∀ k : Nat, k < 4 → W.frozen? ⟨b, k, none⟩ = false
  z : b < W.heap.size
section
variable {W W' : World} {b : Nat} {L : List Int}
theorem Arr.far (h : Arr W b L) {row : Option Nat} (hg : W.grownBy W' row) (hr : row ≠ some b) : Arr W' b L := by
  have hk := hg.block b h.z (fun e => hr e.symm)
  exact ⟨h.len, fun k h4 => (World.cell?_of_block (a := ⟨b, k, none⟩) hk).trans (h.cell k h4), fun k h4 => (World.frozen?_of_block (a := ⟨b, k, none⟩) hk).trans (h.free k h4), Nat.lt_of_lt_of_le h.z hg.size⟩
theorem Arr.step (h : Arr W b L) (hb : Below W.heap.size W W') : Arr W' b L := h.far (grownBy_of_below hb) (by simp)
theorem Arr.set (h : Arr W b L) {j : Nat} (hj : j < 4) (v : Int) : Arr (W.setCell ⟨b, j, none⟩ (.int .u8 v)) b (L.set j v) := by
  have hl := h.len
  refine ⟨by simp [hl], fun k h4 => ?_, fun k h4 => by rw [World.frozen?_setCell]; exact h.free k h4, by have := h.z; simpa [World.setCell] using this⟩
  by_cases e : j = k
  · subst e
    rw [show (L.set j v).getD j 0 = v by simp [List.getD_eq_getElem?_getD, hl, hj]]
    exact set_at _ _ _ _ (h.cell j hj)
  · rw [set_far _ _ _ _ (addr_ne (by omega)), show (L.set j v).getD k 0 = L.getD k 0 by simp [List.getD_eq_getElem?_getD, List.getElem?_set_ne e]]
    exact h.cell k h4
theorem Arr.put (h : Arr W b L) {j : Nat} (hj : j < 4) (v : Value) : W.grownBy (W.setCell ⟨b, j, none⟩ v) (some b) := grownBy_setCell' _ _ _
theorem Arr.zero (w : World) (t : TypeId) (g : Nat) (hg : g = w.heap.size) : Arr (w.alloc (.cells #[.int .u8 0, .int .u8 0, .int .u8 0, .int .u8 0] t)) g [0, 0, 0, 0] := by
  have h := Box4.at_ w (.int .u8 0) (.int .u8 0) (.int .u8 0) (.int .u8 0) t g hg
  refine ⟨rfl, fun k hk => ?_, fun k hk => ?_, h.z⟩
  · match k, hk with
    | 0, _ => exact h.c0
    | 1, _ => exact h.c1
    | 2, _ => exact h.c2
    | 3, _ => exact h.c3
  · match k, hk with
    | 0, _ => exact h.f0
    | 1, _ => exact h.f1
    | 2, _ => exact h.f2
    | 3, _ => exact h.f3
/-- its four cells by name -/
theorem Arr.box (h : Arr W b L) : ∃ f0 f1 f2 f3, L = [f0, f1, f2, f3] ∧ Box4 W b (.int .u8 f0) (.int .u8 f1) (.int .u8 f2) (.int .u8 f3) := by
  obtain ⟨hl, hc, hf, hz⟩ := h
  match L, hl with
  | [f0, f1, f2, f3], _ => exact ⟨f0, f1, f2, f3, rfl, hc 0 (by decide), hc 1 (by decide), hc 2 (by decide), hc 3 (by decide), hf 0 (by decide), hf 1 (by decide), hf 2 (by decide), hf 3 (by decide), hz⟩
theorem Arr.box4 {f0 f1 f2 f3 : Int} (h : Arr W b [f0, f1, f2, f3]) : Box4 W b (.int .u8 f0) (.int .u8 f1) (.int .u8 f2) (.int .u8 f3) :=
  ⟨h.cell 0 (by decide), h.cell 1 (by decide), h.cell 2 (by decide), h.cell 3 (by decide), h.free 0 (by decide), h.free 1 (by decide), h.free 2 (by decide), h.free 3 (by decide), h.z⟩
end
theorem map_zero : [(0 : Int), 0, 0, 0].map doubleL = List.replicate 4 zeroSec := by decide +kernel
theorem new_four : newD 4 = (⟨List.replicate 4 zeroSec, [], -1, false⟩, 0) := newD_yes (n := 4) (by decide) (by decide)
theorem stop_four {left : Int} (h0 : 0 ≤ left) (h1 : left ≤ 255) : stopD ⟨List.replicate 4 zeroSec, [], -1, false⟩ left = (histD [0, 0, 0, 0] [] left, 0) := by
  rw [stopD_ok (by decide +kernel) h0 (by omega)]
  simp only [histD, map_zero]
  rfl
/-- what lies in memory between two acts -/
structure HI (w : World) (bd bl bf bs B : Nat) (v : Value) (sv pv : Sl) (fs : List Int) (wt : List Ac) (room : Int) (W : World) : Prop where
  box : Box4 W bd (.slice sv.a sv.n sv.c) (.slice pv.a pv.n pv.c) (.int .i64 room) (.bool false)
  last : Arr W bl (putB fs wt)
  first : Arr W bf fs
  second : Arr W bs fs
  disk : Di W (fun b => b ≠ bd ∧ b ≠ bl ∧ b ≠ bf ∧ b ≠ bs ∧ v.ownBlock ≠ some b) sv pv (histD fs wt room)
  wait : Owns W B 46 3 Ac.enc v wt
  bel : Below w.heap.size w W
theorem HI.step {w : World} {bd bl bf bs B : Nat} {v : Value} {sv pv : Sl} {fs : List Int} {wt : List Ac} {room : Int} {W W' : World} (h : HI w bd bl bf bs B v sv pv fs wt room W) (hb : Below W.heap.size W W') : HI w bd bl bf bs B v sv pv fs wt room W' :=
  ⟨h.box.step hb, h.last.step hb, h.first.step hb, h.second.step hb, h.disk.step hb, h.wait.below hb (Nat.le_refl _), h.bel.trans (hb.mono h.bel.size)⟩
end Go.Proofs.Ytebbmplbpgilaaa
