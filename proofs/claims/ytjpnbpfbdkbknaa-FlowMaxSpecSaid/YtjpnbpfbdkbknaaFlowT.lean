/- The types of chapter 18: how an argument's reading becomes an edge, a list of edges, of numbers, of bools. -/
import Derived.Test.YtjpnbpfbdkbknaaFlowS
import Derived.Test.YtjpnbpfbdkbknaaOpen
import Derived.Lib.SmallJoins
namespace Go.Proofs.Ytjpnbpfbdkbknaa
open Go.RowKit Go.WideShapes Go.ChangeShapes Go.Joins Go.Deep
set_option linter.unusedSimpArgs false
set_option linter.unusedVariables false

/-- a struct by value, out of what is known of its cells -/
theorem openV_of {α : Type} {en : α → List Value} {Q : α → Prop} {H : Type} {enc : TypeId × Value → H} {P : Program} {w : World} {base b0 : Nat} {r : Reach} {spare : Nat → Bool} {held : Bool} {t : TypeId} {fs : Array Field} {v : Value} {d : DataW H} {p : List MemPlace}
    (hs : P.underlying t = some (.struct fs)) (hE : ∀ fuel cs x, DataW.trod enc P w base spare held fuel t cs = some x → ∃ y : α, en y = cs ∧ Q y)
    (hv : Value.okWide P w r b0 t v) (h : DataW.Trod enc P w base spare held t v d p) : ∃ y : α, v = .agg ⟨en y⟩ ∧ Q y := by
  obtain ⟨cs, rfl, _⟩ := okWide_struct hs hv
  obtain ⟨fuel, hf⟩ := h
  obtain ⟨y, hy, hq⟩ := hE _ _ _ hf
  exact ⟨y, by rw [hy]; rfl, hq⟩

theorem Try.cells_Ed : Try.prog.cellsOf 39 = 3 := by kernel_rfl
theorem Try.cells_In : Try.prog.cellsOf 3 = 1 := by kernel_rfl
theorem Try.cells_Bo : Try.prog.cellsOf 4 = 1 := by kernel_rfl
def Ed.ok (c : Ed) : Prop := (Lit.int .i64 c.f).wf = true ∧ (Lit.int .i64 c.t).wf = true ∧ (Lit.int .i64 c.m).wf = true
def zero_Ed : Value := .agg #[.int .i64 0, .int .i64 0, .int .i64 0]
abbrev In.enc : Int → List Value := intE
def In.ok (n : Int) : Prop := (Lit.int .i64 n).wf = true
abbrev Bo.enc : Bool → List Value := boolE
def Bo.ok (n : Bool) : Prop := True
theorem openE_In {H : Type} {enc : TypeId × Value → H} {w : World} {base : Nat} {spare : Nat → Bool} {held : Bool} {fuel : Nat} {cs : List Value} {x : DataW H × List MemPlace}
    (h : DataW.trod enc Try.prog w base spare held fuel 3 cs = some x) : ∃ y : Int, In.enc y = cs ∧ In.ok y := by
  obtain ⟨a, ha, _, wa⟩ := DataW.trod_int Try.underlying3 h
  exact ⟨a, ha.symm, wa⟩
theorem openE_Bo {H : Type} {enc : TypeId × Value → H} {w : World} {base : Nat} {spare : Nat → Bool} {held : Bool} {fuel : Nat} {cs : List Value} {x : DataW H × List MemPlace}
    (h : DataW.trod enc Try.prog w base spare held fuel 4 cs = some x) : ∃ y : Bool, Bo.enc y = cs ∧ Bo.ok y := by
  obtain ⟨a, ha, _⟩ := DataW.trod_bool Try.underlying4 h
  exact ⟨a, ha.symm, trivial⟩
theorem openE_Ed {H : Type} {enc : TypeId × Value → H} {w : World} {base : Nat} {spare : Nat → Bool} {held : Bool} {fuel : Nat} {cs : List Value} {x : DataW H × List MemPlace}
    (h : DataW.trod enc Try.prog w base spare held fuel 39 cs = some x) : ∃ y : Ed, y.enc = cs ∧ y.ok := by
  obtain ⟨xs, n, _, _, hl, hxl, hf⟩ := DataW.trod_struct Try.underlying39 h
  rw [Try.cells_Ed] at hl
  obtain ⟨c0, c1, c2, rfl⟩ : ∃ c0 c1 c2, cs = [c0, c1, c2] := by
    match cs, hl with
    | [c0, c1, c2], _ => exact ⟨c0, c1, c2, rfl⟩
  have f0 := hf 0 _ rfl
  have f1 := hf 1 _ rfl
  have f2 := hf 2 _ rfl
  simp at hxl
  simp [Try.cells_In] at f0 f1 f2
  rw [List.getElem?_eq_getElem (by omega)] at f0 f1 f2
  obtain ⟨a, ha, _, wa⟩ := DataW.trod_int Try.underlying3 f0
  obtain ⟨b, hb, _, wb⟩ := DataW.trod_int Try.underlying3 f1
  obtain ⟨c, hc, _, wc⟩ := DataW.trod_int Try.underlying3 f2
  simp at ha hb hc
  subst ha hb hc
  exact ⟨⟨a, b, c⟩, rfl, wa, wb, wc⟩
theorem openV_Ed {H : Type} {enc : TypeId × Value → H} {w : World} {base b0 : Nat} {r : Reach} {spare : Nat → Bool} {held : Bool} {v : Value} {d : DataW H} {p : List MemPlace}
    (hv : Value.okWide Try.prog w r b0 39 v) (h : DataW.Trod enc Try.prog w base spare held 39 v d p) : ∃ y : Ed, v = y.v ∧ y.ok :=
  openV_of Try.underlying39 (fun _ _ _ h => openE_Ed h) hv h
end Go.Proofs.Ytjpnbpfbdkbknaa
