/- The types of chapter 46: how an argument's reading becomes a journal, a disk, records. -/
import Derived.Test.YtgbkhmoplocmkaaJouS
import Derived.Test.YtgbkhmoplocmkaaDskT
import Derived.Test.YtgbkhmoplocmkaaOpen
import Derived.SizedLaws
namespace Go.Proofs.Ytgbkhmoplocmkaa
open Go.RowKit Go.WideShapes Go.ChangeShapes Go.Joins Go.Deep Go.Shelf
set_option linter.unusedSimpArgs false
set_option linter.unusedVariables false
set_option maxRecDepth 20000

theorem Try.cells_Jl : Try.prog.cellsOf 29 = 3 := by kernel_rfl
def zero_Jq : Value := .agg #[.slice none 0 0, .int .i64 0, .int .i64 0]
def zero_Dq : Value := zero_Dk
def zero_Bq : Value := .slice none 0 0
def zero_Sq : Value := .slice none 0 0
section
variable {H : Type} {enc : TypeId × Value → H} {w : World} {base b0 : Nat} {r : Reach} {spare : Nat → Bool} {held : Bool} {v : Value} {d : DataW H} {p : List MemPlace}
theorem openV_Dq (hv : Value.okWide Try.prog w r b0 25 v) (h : DataW.Trod enc Try.prog w base spare held 25 v d p) : ∃ y : Sl × Sl × Dk, v = dkV y.1 y.2.1 y.2.2 ∧ Di w everyB y.1 y.2.1 y.2.2 := by
  obtain ⟨sv, pv, x, e, hd⟩ := openV_Dk hv h
  exact ⟨(sv, pv, x), e, hd⟩
theorem openV_Bq (hv : Value.okWide Try.prog w r b0 35 v) (h : DataW.Trod enc Try.prog w base spare held 35 v d p) : ∃ y : Sl × List Int, v = .slice y.1.a y.1.n y.1.c ∧ By w everyB y.1 y.2 := by
  obtain ⟨s, bs, e, hb⟩ := openV_By hv h
  exact ⟨(s, bs), e, hb⟩
/-- records by value -/
theorem openV_Sq (hv : Value.okWide Try.prog w r b0 22 v) (h : DataW.Trod enc Try.prog w base spare held 22 v d p) : ∃ y : Sl × List (List Int), v = .slice y.1.a y.1.n y.1.c ∧ Se w everyB y.1 y.2 := by
  obtain ⟨al, ll, cl, rfl⟩ := okWide_slice Try.underlying22 hv
  obtain ⟨fuel, hf⟩ := h
  obtain ⟨s, e, bs, hb⟩ := openE_Se hf
  have e2 : slE s = [.slice al ll cl] := by simpa [Value.cells] using e
  simp [slE] at e2
  exact ⟨(s, bs), by rw [e2.1, e2.2.1, e2.2.2], hb⟩
theorem openE_Jl {fuel : Nat} {cs : List Value} {x : DataW H × List MemPlace} (h : DataW.trod enc Try.prog w base spare held fuel 29 cs = some x) : ∃ y : Sl × Jl, jlV y.1 y.2 = .agg ⟨cs⟩ ∧ Se w everyB y.1 y.2.recs := by
  obtain ⟨xs, n, _, _, hl, hxl, hf⟩ := DataW.trod_struct Try.underlying29 h
  rw [Try.cells_Jl] at hl
  obtain ⟨c0, c1, c2, rfl⟩ : ∃ c0 c1 c2, cs = [c0, c1, c2] := by
    match cs, hl with
    | [c0, c1, c2], _ => exact ⟨c0, c1, c2, rfl⟩
  have f0 := hf 0 _ rfl
  have f1 := hf 1 _ rfl
  have f2 := hf 2 _ rfl
  simp at hxl
  simp [Try.cells_Int, Try.cells_SS] at f0 f1 f2
  rw [List.getElem?_eq_getElem (by omega)] at f0 f1 f2
  obtain ⟨sv, hs, ss, h0⟩ := openE_Se f0
  obtain ⟨a, ha, _, wa⟩ := DataW.trod_int Try.underlying3 f1
  obtain ⟨b, hb, _, wb⟩ := DataW.trod_int Try.underlying3 f2
  simp [slE] at hs ha hb
  subst hs ha hb
  exact ⟨(sv, ⟨ss, a, b⟩), rfl, h0⟩
/-- a journal by value -/
theorem openV_Jq (hv : Value.okWide Try.prog w r b0 29 v) (h : DataW.Trod enc Try.prog w base spare held 29 v d p) : ∃ y : Sl × Jl, v = jlV y.1 y.2 ∧ Se w everyB y.1 y.2.recs := by
  obtain ⟨cs, rfl, _⟩ := okWide_struct Try.underlying29 hv
  obtain ⟨fuel, hf⟩ := h
  obtain ⟨y, e, hd⟩ := openE_Jl hf
  exact ⟨y, by rw [e]; rfl, hd⟩
/-- a slice's weight is its bytes at least -/
theorem weigh_slice {t e : TypeId} {N : Nat} {d : DataW H} {fuel : Nat} {s : Sl} {ps : List MemPlace} (ht : Try.prog.underlying t = some (.slice e)) (h : DataW.trod enc Try.prog w base spare held fuel t (slE s) = some (d, ps)) (hw : ∀ n ∈ d.weights Try.prog t, n ≤ N) : s.n * Try.prog.bytesOf e ≤ N := by
  have h1 := Go.Joins.sliceLen_trod ht (a := s.a) (len := s.n) (cap := s.c) h
  cases d with
  | slice el sp =>
    have h2 := hw ((el.length + sp.length) * Try.prog.bytesOf e) (by simp [DataW.weights, ht])
    simp only [Go.Joins.sliceLen] at h1
    rw [← h1]
    exact Nat.le_trans (Nat.mul_le_mul_right _ (Nat.le_add_right _ _)) h2
  | _ =>
    simp only [Go.Joins.sliceLen] at h1
    rw [← h1]
    simp
theorem Try.bytes_Sl : Try.prog.bytesOf 35 = 24 := by kernel_rfl
theorem openE_JlS {N : Nat} {fuel : Nat} {cs : List Value} {x : DataW H × List MemPlace} (h : DataW.trod enc Try.prog w base spare held fuel 29 cs = some x) (hw : ∀ n ∈ x.1.weights Try.prog 29, n ≤ N) : ∃ y : Sl × Jl, jlV y.1 y.2 = .agg ⟨cs⟩ ∧ Se w everyB y.1 y.2.recs ∧ y.2.recs.length * 24 ≤ N := by
  obtain ⟨xs, n, _, hx, hl, hxl, hf⟩ := DataW.trod_struct Try.underlying29 h
  rw [Try.cells_Jl] at hl
  obtain ⟨c0, c1, c2, rfl⟩ : ∃ c0 c1 c2, cs = [c0, c1, c2] := by
    match cs, hl with
    | [c0, c1, c2], _ => exact ⟨c0, c1, c2, rfl⟩
  have f0 := hf 0 _ rfl
  have f1 := hf 1 _ rfl
  have f2 := hf 2 _ rfl
  simp at hxl
  simp [Try.cells_Int, Try.cells_SS] at f0 f1 f2
  rw [List.getElem?_eq_getElem (by omega)] at f0 f1 f2
  have hw0 : ∀ n ∈ (xs[0]'(by omega)).1.weights Try.prog 22, n ≤ N := fun n hn => hw n (by
    rw [hx]
    simp only [DataW.weights, Try.underlying29]
    exact DataW.weights_mem_each (j := 0) (t := 22) (d := (xs[0]'(by omega)).1) rfl (by rw [List.getElem?_map, List.getElem?_eq_getElem (by omega)]; rfl) n hn)
  obtain ⟨sv, hs, ss, h0⟩ := openE_Se f0
  obtain ⟨a, ha, _, wa⟩ := DataW.trod_int Try.underlying3 f1
  obtain ⟨b, hb, _, wb⟩ := DataW.trod_int Try.underlying3 f2
  have hwt : sv.n * Try.prog.bytesOf 35 ≤ N := weigh_slice (s := sv) (ps := (xs[0]'(by omega)).2) Try.underlying22 (by rw [hs]; exact f0) hw0
  rw [Try.bytes_Sl, h0.len] at hwt
  simp [slE] at hs ha hb
  subst hs ha hb
  exact ⟨(sv, ⟨ss, a, b⟩), rfl, h0, hwt⟩
/-- a journal by value, and what it weighs -/
theorem openV_JqS {N : Nat} (hv : Value.okWide Try.prog w r b0 29 v) (h : DataW.Trod enc Try.prog w base spare held 29 v d p) (hw : ∀ n ∈ d.weights Try.prog 29, n ≤ N) : ∃ y : Sl × Jl, v = jlV y.1 y.2 ∧ Se w everyB y.1 y.2.recs ∧ y.2.recs.length * 24 ≤ N := by
  obtain ⟨cs, rfl, _⟩ := okWide_struct Try.underlying29 hv
  obtain ⟨fuel, hf⟩ := h
  obtain ⟨y, e, hd, hn⟩ := openE_JlS hf hw
  exact ⟨y, by rw [e]; rfl, hd, hn⟩
end
end Go.Proofs.Ytgbkhmoplocmkaa
