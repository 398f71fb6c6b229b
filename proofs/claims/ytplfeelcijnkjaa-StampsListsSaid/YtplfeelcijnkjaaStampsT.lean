/- The types of chapter 8: how an argument's reading becomes a stamp, and a list of stamps. -/
import Derived.Test.YtplfeelcijnkjaaStampsS
import Derived.Test.YtplfeelcijnkjaaOpen
namespace Go.Proofs.Ytplfeelcijnkjaa
open Go.RowKit Go.WideShapes Go.ChangeShapes
set_option linter.unusedSimpArgs false
set_option linter.unusedVariables false

def St.ok (c : St) : Prop := (Lit.int .i64 c.time).wf = true ∧ (Lit.int .i64 c.campus).wf = true ∧ (Lit.int .i64 c.no).wf = true
def zero_St : Value := .agg #[.int .i64 0, .int .i64 0, .int .i64 0]
theorem Try.cells_St : Try.prog.cellsOf 23 = 3 := by kernel_rfl
theorem cellsInt : Try.prog.cellsOf 3 = 1 := by kernel_rfl

theorem openE_St {H : Type} {enc : TypeId × Value → H} {w : World} {base : Nat} {spare : Nat → Bool} {held : Bool} {fuel : Nat} {cs : List Value} {x : DataW H × List MemPlace}
    (h : DataW.trod enc Try.prog w base spare held fuel 23 cs = some x) : ∃ y : St, y.enc = cs ∧ y.ok := by
  obtain ⟨xs, n, _, _, hl, hxl, hf⟩ := DataW.trod_struct Try.underlying23 h
  rw [Try.cells_St] at hl
  obtain ⟨c0, c1, c2, rfl⟩ : ∃ c0 c1 c2, cs = [c0, c1, c2] := by
    match cs, hl with
    | [c0, c1, c2], _ => exact ⟨c0, c1, c2, rfl⟩
  have f0 := hf 0 _ rfl
  have f1 := hf 1 _ rfl
  have f2 := hf 2 _ rfl
  simp at hxl
  simp [cellsInt] at f0 f1 f2
  rw [List.getElem?_eq_getElem (by omega)] at f0 f1 f2
  obtain ⟨a, ha, _, wa⟩ := DataW.trod_int Try.underlying3 f0
  obtain ⟨b, hb, _, wb⟩ := DataW.trod_int Try.underlying3 f1
  obtain ⟨c, hc, _, wc⟩ := DataW.trod_int Try.underlying3 f2
  simp at ha hb hc
  subst ha hb hc
  exact ⟨⟨a, b, c⟩, rfl, wa, wb, wc⟩

theorem openV_St {H : Type} {enc : TypeId × Value → H} {w : World} {base b0 : Nat} {r : Reach} {spare : Nat → Bool} {held : Bool} {v : Value} {d : DataW H} {p : List MemPlace}
    (hv : Value.okWide Try.prog w r b0 23 v) (h : DataW.Trod enc Try.prog w base spare held 23 v d p) : ∃ y : St, v = y.v ∧ y.ok := by
  obtain ⟨v0, v1, v2, y0, y1, y2, n, rfl, _, _, f0, f1, f2⟩ := Go.Joins.open_agg3 Try.underlying23 (by kernel_rfl) Try.cells_St hv h
  obtain ⟨a, ha, _, wa⟩ := DataW.trod_int Try.underlying3 f0
  obtain ⟨b, hb, _, wb⟩ := DataW.trod_int Try.underlying3 f1
  obtain ⟨c, hc, _, wc⟩ := DataW.trod_int Try.underlying3 f2
  simp at ha hb hc
  subst ha hb hc
  exact ⟨⟨a, b, c⟩, rfl, wa, wb, wc⟩
end Go.Proofs.Ytplfeelcijnkjaa
