/- The types of chapter 33: how an argument's reading becomes a list of clauses. -/
import Derived.Test.YtjcojohfimhgdaaPolicyS
import Derived.Test.YtjcojohfimhgdaaOpen
namespace Go.Proofs.Ytjcojohfimhgdaa
open Go.RowKit Go.WideShapes Go.ChangeShapes

instance : Inhabited Cl := ⟨⟨0, 0, 0, 0⟩⟩
def Cl.ok (c : Cl) : Prop := (Lit.int .i64 c.kind).wf = true ∧ (Lit.int .i64 c.when_).wf = true ∧ (Lit.int .i64 c.act).wf = true ∧ (Lit.int .i64 c.untl).wf = true
theorem Try.cells_Cl : Try.prog.cellsOf 35 = 4 := by kernel_rfl
theorem cellsInt : Try.prog.cellsOf 3 = 1 := by kernel_rfl

theorem openE_Cl {H : Type} {enc : TypeId × Value → H} {w : World} {base : Nat} {spare : Nat → Bool} {held : Bool} {fuel : Nat} {cs : List Value} {x : DataW H × List MemPlace}
    (h : DataW.trod enc Try.prog w base spare held fuel 35 cs = some x) : ∃ y : Cl, y.enc = cs ∧ y.ok := by
  obtain ⟨xs, n, _, _, hl, hxl, hf⟩ := DataW.trod_struct Try.underlying35 h
  rw [Try.cells_Cl] at hl
  obtain ⟨c0, c1, c2, c3, rfl⟩ : ∃ c0 c1 c2 c3, cs = [c0, c1, c2, c3] := by
    match cs, hl with
    | [c0, c1, c2, c3], _ => exact ⟨c0, c1, c2, c3, rfl⟩
  have f0 := hf 0 _ rfl
  have f1 := hf 1 _ rfl
  have f2 := hf 2 _ rfl
  have f3 := hf 3 _ rfl
  simp at hxl
  simp [cellsInt] at f0 f1 f2 f3
  rw [List.getElem?_eq_getElem (by omega)] at f0 f1 f2 f3
  obtain ⟨a, ha, _, wa⟩ := DataW.trod_int Try.underlying3 f0
  obtain ⟨b, hb, _, wb⟩ := DataW.trod_int Try.underlying3 f1
  obtain ⟨c, hc, _, wc⟩ := DataW.trod_int Try.underlying3 f2
  obtain ⟨d, hd, _, wd⟩ := DataW.trod_int Try.underlying3 f3
  simp at ha hb hc hd
  subst ha hb hc hd
  exact ⟨⟨a, b, c, d⟩, rfl, wa, wb, wc, wd⟩
end Go.Proofs.Ytjcojohfimhgdaa
