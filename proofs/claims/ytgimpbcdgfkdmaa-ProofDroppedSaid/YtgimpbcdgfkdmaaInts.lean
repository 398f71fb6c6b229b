/- A block of ints, known whole; a slice of ints that a call makes. -/
import Derived.Test.YtgimpbcdgfkdmaaHdr
import Derived.Test.YtgimpbcdgfkdmaaRows
import Derived.Test.YtgimpbcdgfkdmaaQuiet
import Derived.Laws.MakeOwn
import Derived.Deep.RegionHeldLaw
namespace Go.Proofs.Ytgimpbcdgfkdmaa
open Go.RowKit
set_option linter.unusedSimpArgs false
set_option linter.unusedVariables false

/-- a block of ints -/
def FlAt (w : World) (F : Nat) (xs : List Int) : Prop := w.heap[F]? = some (.cells (xs.map (Value.int .i64)).toArray 3 (0, 0))
theorem FlAt.step {w w' : World} {F : Nat} {xs : List Int} (h : FlAt w F xs) (hb : Below w.heap.size w w') : FlAt w' F xs := (hb.block F (Array.getElem?_eq_some_iff.1 h).1).trans h
theorem FlAt.lt {w : World} {F : Nat} {xs : List Int} (h : FlAt w F xs) : F < w.heap.size := (Array.getElem?_eq_some_iff.1 h).1
theorem FlAt.cell {w : World} {F : Nat} {xs : List Int} (h : FlAt w F xs) {i : Nat} (hi : i < xs.length) : w.cell? ⟨F, i, none⟩ = some (.int .i64 (xs.getD i 0)) := by
  unfold FlAt at h
  simp [World.cell?, h, List.getD_eq_getElem?_getD, List.getElem?_eq_getElem hi]
theorem FlAt.free {w : World} {F : Nat} {xs : List Int} (h : FlAt w F xs) (i : Nat) : w.frozen? ⟨F, i, none⟩ = false := by
  unfold FlAt at h
  simp [World.frozen?, h]
theorem FlAt.set {w : World} {F : Nat} {xs : List Int} (h : FlAt w F xs) (i : Nat) (v : Int) : FlAt (w.setCell ⟨F, i, none⟩ (.int .i64 v)) F (xs.set i v) := by
  unfold FlAt at *
  rw [heap_setCell_same w F i _ _ _ h]
  congr 2
  apply Array.ext'
  simp [List.map_set]
theorem FlAt.far {w : World} {F : Nat} {xs : List Int} (h : FlAt w F xs) {a : Addr} (ha : F ≠ a.block) (u : Value) : FlAt (w.setCell a u) F xs := (Below.heap_setCell _ _ _ _ ha).trans h
theorem FlAt.alloc {w : World} {F : Nat} {xs : List Int} (h : FlAt w F xs) (o : Obj) : FlAt (w.alloc o) F xs := h.step ((Below.refl _ _).alloc (Nat.le_refl _) _)
theorem getD_some {α : Type} {xs : List α} {i : Nat} {x d : α} (h : xs[i]? = some x) : xs.getD i d = x := by simp [List.getD_eq_getElem?_getD, h]
theorem getD_set (xs : List Int) (i j : Nat) (z : Int) (hi : i < xs.length) : (xs.set i z).getD j 0 = if i = j then z else xs.getD j 0 := by
  simp only [List.getD_eq_getElem?_getD, List.getElem?_set]
  split
  · rename_i h; subst h; simp [hi]
  · rfl
theorem Try.infoInt : (Try.prog.info? 3).map (fun i => (i.zero, i.size, i.bytes)) = some (some (.int .i64 0), 1, 8) := by kernel_rfl
theorem made_ints (n : Nat) : madeCells (Value.int .i64 0).cells n = ((List.replicate n (0 : Int)).map (Value.int .i64)).toArray := by
  apply Array.ext
  · simp [size_madeCells]
  · intro i h1 h2
    simp [madeCells, Value.cells, Nat.mod_one]
/-- make([]int, n) -/
theorem run_make_ints (n : Nat) (hn : n ≤ 1000000) (W : World) : (Instr.makeSlice 55 (.int .i64 n) (.int .i64 n)).run Try.prog W = .ok (.slice (some ⟨W.heap.size, 0, none⟩) n n) (W.alloc (.cells ((List.replicate n (0 : Int)).map (Value.int .i64)).toArray 3)) := by
  obtain ⟨i0, hinf, hz0, hz1, hz2⟩ := info_parts Try.infoInt
  have h := run_make (P := Try.prog) W 55 3 i0 (.int .i64 0) Try.underlying55 hinf hz0 .i64 .i64 (n : Int) (n : Int) (by omega) (by omega) (by rw [hz2]; omega) (by omega)
  rw [hz1] at h
  simp only [Int.toNat_natCast, Nat.mul_one, made_ints] at h
  exact h
theorem FlAt.made (w : World) (xs : List Int) : FlAt (w.alloc (.cells (xs.map (Value.int .i64)).toArray 3)) w.heap.size xs := heap_alloc_new w _
end Go.Proofs.Ytgimpbcdgfkdmaa
