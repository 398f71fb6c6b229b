/- The types of chapter 5: how an argument's reading becomes a fraction, a list of integers. -/
import Derived.Test.YtaogcmgbmomilaaRatS
import Derived.Test.YtaogcmgbmomilaaOpen
import Derived.Lib.SmallJoins
namespace Go.Proofs.Ytaogcmgbmomilaa
open Go.RowKit Go.WideShapes Go.ChangeShapes
set_option linter.unusedSimpArgs false
set_option linter.unusedVariables false

def Ra.ok (c : Ra) : Prop := (Lit.int .i64 c.num).wf = true ∧ (Lit.int .i64 c.den).wf = true
theorem Ra.ok_i64 {c : Ra} (h : c.ok) : c.i64 := ⟨by unfold I64; exact bounds_i64 h.1, by unfold I64; exact bounds_i64 h.2⟩
def zero_Ra : Value := .agg #[.int .i64 0, .int .i64 0]
theorem Try.cells_Ra : Try.prog.cellsOf 23 = 2 := by kernel_rfl
theorem Try.cells_In : Try.prog.cellsOf 3 = 1 := by kernel_rfl
theorem Try.cells_I8 : Try.prog.cellsOf 44 = 1 := by kernel_rfl
theorem Try.cells_U8 : Try.prog.cellsOf 5 = 1 := by kernel_rfl

theorem openV_Ra {H : Type} {enc : TypeId × Value → H} {w : World} {base b0 : Nat} {r : Reach} {spare : Nat → Bool} {held : Bool} {v : Value} {d : DataW H} {p : List MemPlace}
    (hv : Value.okWide Try.prog w r b0 23 v) (h : DataW.Trod enc Try.prog w base spare held 23 v d p) : ∃ y : Ra, v = y.v ∧ y.ok := by
  obtain ⟨v0, v1, y0, y1, n, rfl, _, _, f0, f1⟩ := Go.Joins.open_agg2 Try.underlying23 (by kernel_rfl) Try.cells_Ra hv h
  obtain ⟨a, ha, _, wa⟩ := DataW.trod_int Try.underlying3 f0
  obtain ⟨b, hb, _, wb⟩ := DataW.trod_int Try.underlying3 f1
  simp at ha hb
  subst ha hb
  exact ⟨⟨a, b⟩, rfl, wa, wb⟩

abbrev In.enc : Int → List Value := intE
def In.ok (n : Int) : Prop := (Lit.int .i64 n).wf = true
theorem openE_In {H : Type} {enc : TypeId × Value → H} {w : World} {base : Nat} {spare : Nat → Bool} {held : Bool} {fuel : Nat} {cs : List Value} {x : DataW H × List MemPlace}
    (h : DataW.trod enc Try.prog w base spare held fuel 3 cs = some x) : ∃ y : Int, In.enc y = cs ∧ In.ok y := by
  obtain ⟨a, ha, _, wa⟩ := DataW.trod_int Try.underlying3 h
  exact ⟨a, ha.symm, wa⟩
def I8.enc (n : Int) : List Value := [.int .i8 n]
def I8.ok (n : Int) : Prop := (Lit.int .i8 n).wf = true
theorem openE_I8 {H : Type} {enc : TypeId × Value → H} {w : World} {base : Nat} {spare : Nat → Bool} {held : Bool} {fuel : Nat} {cs : List Value} {x : DataW H × List MemPlace}
    (h : DataW.trod enc Try.prog w base spare held fuel 44 cs = some x) : ∃ y : Int, I8.enc y = cs ∧ I8.ok y := by
  obtain ⟨a, ha, _, wa⟩ := DataW.trod_int Try.underlying44 h
  exact ⟨a, ha.symm, wa⟩
def U8.enc (n : Int) : List Value := [.int .u8 n]
def U8.ok (n : Int) : Prop := (Lit.int .u8 n).wf = true
theorem openE_U8 {H : Type} {enc : TypeId × Value → H} {w : World} {base : Nat} {spare : Nat → Bool} {held : Bool} {fuel : Nat} {cs : List Value} {x : DataW H × List MemPlace}
    (h : DataW.trod enc Try.prog w base spare held fuel 5 cs = some x) : ∃ y : Int, U8.enc y = cs ∧ U8.ok y := by
  obtain ⟨a, ha, _, wa⟩ := DataW.trod_int Try.underlying5 h
  exact ⟨a, ha.symm, wa⟩
end Go.Proofs.Ytaogcmgbmomilaa
