/- slices.Backward over writes. -/
import Derived.Test.YtgbkhmoplocmkaaDskF
import Derived.StillTailTactics
import Derived.RegionTactic
import Derived.BigRegion
namespace Go.Proofs.Ytgbkhmoplocmkaa
open Go.RowKit Go.Shelf
set_option linter.unusedSimpArgs false
set_option linter.unusedVariables false
set_option maxRecDepth 20000
attribute [local go_sem] Oper.semAt_some

theorem reads_same {α : Type} {w w' : World} {B sz : Nat} {A : Option Addr} {enc : α → List Value} {xs : List α} (h : Reads w B A sz enc xs) (hk : ∀ b, b < B → w'.heap[b]? = w.heap[b]?) : Reads w' B A sz enc xs := fun hn => by
  obtain ⟨b, off, e, hlt, hc⟩ := h hn
  exact ⟨b, off, e, hlt, fun i x j v hi hj => (World.cell?_of_block (a := ⟨b, _, none⟩) (hk b hlt)).trans (hc i x j v hi hj)⟩
theorem abs_world {F : Fence} {n : Nat} {P : Program} {Q : Exit → Act → World → Prop} {c : Code} {a : Act} {w : World} (h : ∀ W, W = w → c.wpIn F n P Q a W) : c.wpIn F n P Q a w := h w rfl

/-- indices and elements, the last one first -/
def bk (vs : List (Int × Sl)) : List (Int × (Int × Sl)) := (vs.zipIdx.map fun p => ((p.2 : Int), p.1)).reverse
theorem bk_len (vs : List (Int × Sl)) : (bk vs).length = vs.length := by simp [bk]
theorem bk_at (vs : List (Int × Sl)) (k m : Nat) (x : Int × Sl) (h : k < vs.length) (hm : m = vs.length - 1 - k) (hx : vs[m]? = some x) : (bk vs)[k]? = some ((m : Int), x) := by
  subst hm
  have h2 : k < (vs.zipIdx.map fun p => ((p.2 : Int), p.1)).length := by simp; omega
  rw [bk, List.getElem?_reverse h2]
  simp only [List.length_map, List.length_zipIdx, List.getElem?_map, List.getElem?_zipIdx]
  rw [hx]
  simp
theorem take_at {α : Type} {l : List α} {k : Nat} {x : α} (h : l[k]? = some x) : l.take (k + 1) = l.take k ++ [x] := by
  have hl := (List.getElem?_eq_some_iff.1 h).1
  rw [List.take_succ_eq_append_getElem hl, (List.getElem?_eq_some_iff.1 h).2]

end Go.Proofs.Ytgbkhmoplocmkaa
