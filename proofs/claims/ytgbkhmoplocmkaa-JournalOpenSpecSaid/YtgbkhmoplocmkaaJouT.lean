/- The types of chapter 46: how an argument's reading becomes a journal, a disk, records. -/
import Derived.Test.YtgbkhmoplocmkaaJouS
import Derived.Test.YtgbkhmoplocmkaaDskT
import Derived.Test.YtgbkhmoplocmkaaOpen
namespace Go.Proofs.Ytgbkhmoplocmkaa
open Go.RowKit Go.WideShapes Go.ChangeShapes Go.Joins Go.Deep Go.Shelf
set_option linter.unusedSimpArgs false
set_option linter.unusedVariables false
set_option maxRecDepth 20000

theorem Try.cells_Jl : Try.prog.cellsOf 29 = 3 := by kernel_rfl
def zero_Jq : Value := .agg #[.slice none 0 0, .int .i64 0, .int .i64 0]
def zero_Dq : Value := zero_Dk
def zero_Bq : Value := .slice none 0 0
def zero_Sq : Value := .slice none 0 0
section
variable {H : Type} {enc : TypeId × Value → H} {w : World} {base b0 : Nat} {r : Reach} {spare : Nat → Bool} {held : Bool} {v : Value} {d : DataW H} {p : List MemPlace}
theorem openV_Dq (hv : Value.okWide Try.prog w r b0 25 v) (h : DataW.Trod enc Try.prog w base spare held 25 v d p) : ∃ y : Sl × Sl × Dk, v = dkV y.1 y.2.1 y.2.2 ∧ Di w everyB y.1 y.2.1 y.2.2 := by
  obtain ⟨sv, pv, x, e, hd⟩ := openV_Dk hv h
  exact ⟨(sv, pv, x), e, hd⟩
theorem openV_Bq (hv : Value.okWide Try.prog w r b0 35 v) (h : DataW.Trod enc Try.prog w base spare held 35 v d p) : ∃ y : Sl × List Int, v = .slice y.1.a y.1.n y.1.c ∧ By w everyB y.1 y.2 := by
  obtain ⟨s, bs, e, hb⟩ := openV_By hv h
  exact ⟨(s, bs), e, hb⟩
/-- records by value -/
theorem openV_Sq (hv : Value.okWide Try.prog w r b0 22 v) (h : DataW.Trod enc Try.prog w base spare held 22 v d p) : ∃ y : Sl × List (List Int), v = .slice y.1.a y.1.n y.1.c ∧ Se w everyB y.1 y.2 := by
  obtain ⟨al, ll, cl, rfl⟩ := okWide_slice Try.underlying22 hv
  obtain ⟨fuel, hf⟩ := h
  obtain ⟨s, e, bs, hb⟩ := openE_Se hf
  have e2 : slE s = [.slice al ll cl] := by simpa [Value.cells] using e
  simp [slE] at e2
  exact ⟨(s, bs), by rw [e2.1, e2.2.1, e2.2.2], hb⟩
theorem openE_Jl {fuel : Nat} {cs : List Value} {x : DataW H × List MemPlace} (h : DataW.trod enc Try.prog w base spare held fuel 29 cs = some x) : ∃ y : Sl × Jl, jlV y.1 y.2 = .agg ⟨cs⟩ ∧ Se w everyB y.1 y.2.recs := by
  obtain ⟨xs, n, _, _, hl, hxl, hf⟩ := DataW.trod_struct Try.underlying29 h
  rw [Try.cells_Jl] at hl
  obtain ⟨c0, c1, c2, rfl⟩ : ∃ c0 c1 c2, cs = [c0, c1, c2] := by
    match cs, hl with
    | [c0, c1, c2], _ => exact ⟨c0, c1, c2, rfl⟩
  have f0 := hf 0 _ rfl
  have f1 := hf 1 _ rfl
  have f2 := hf 2 _ rfl
  simp at hxl
  simp [Try.cells_Int, Try.cells_SS] at f0 f1 f2
  rw [List.getElem?_eq_getElem (by omega)] at f0 f1 f2
  obtain ⟨sv, hs, ss, h0⟩ := openE_Se f0
  obtain ⟨a, ha, _, wa⟩ := DataW.trod_int Try.underlying3 f1
  obtain ⟨b, hb, _, wb⟩ := DataW.trod_int Try.underlying3 f2
  simp [slE] at hs ha hb
  subst hs ha hb
  exact ⟨(sv, ⟨ss, a, b⟩), rfl, h0⟩
/-- a journal by value -/
theorem openV_Jq (hv : Value.okWide Try.prog w r b0 29 v) (h : DataW.Trod enc Try.prog w base spare held 29 v d p) : ∃ y : Sl × Jl, v = jlV y.1 y.2 ∧ Se w everyB y.1 y.2.recs := by
  obtain ⟨cs, rfl, _⟩ := okWide_struct Try.underlying29 hv
  obtain ⟨fuel, hf⟩ := h
  obtain ⟨y, e, hd⟩ := openE_Jl hf
  exact ⟨y, by rw [e]; rfl, hd⟩
end
end Go.Proofs.Ytgbkhmoplocmkaa
