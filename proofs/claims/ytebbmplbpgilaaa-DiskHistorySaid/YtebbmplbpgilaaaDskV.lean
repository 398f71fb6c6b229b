/- The acts of chapter 45's laws: how a script's reading becomes a list of acts. -/
import Derived.Test.YtebbmplbpgilaaaDskT
namespace Go.Proofs.Ytebbmplbpgilaaa
open Go.RowKit Go.WideShapes Go.ChangeShapes Go.Joins Go.Deep
set_option linter.unusedSimpArgs false
set_option linter.unusedVariables false

/-- an act: a sync, or a write of a byte -/
structure Ac where
  sync : Bool
  at_ : Int
  byte : Int
  deriving Inhabited
def Ac.enc (a : Ac) : List Value := [.bool a.sync, .int .u8 a.at_, .int .u8 a.byte]
def Ac.ok (a : Ac) : Prop := (0 ≤ a.at_ ∧ a.at_ < 256) ∧ 0 ≤ a.byte ∧ a.byte < 256
theorem Ac.enc_len (a : Ac) : a.enc.length = 3 := rfl
theorem Ac.enc_one (a : Ac) : ∀ u ∈ a.enc, u.oneCell' = true := by
  intro u hu
  simp [Ac.enc] at hu
  rcases hu with rfl | rfl | rfl <;> rfl
theorem Try.cells_Ac : Try.prog.cellsOf 46 = 3 := by kernel_rfl
theorem openE_Ac {H : Type} {enc : TypeId × Value → H} {w : World} {base : Nat} {spare : Nat → Bool} {held : Bool} {fuel : Nat} {cs : List Value} {x : DataW H × List MemPlace}
    (h : DataW.trod enc Try.prog w base spare held fuel 46 cs = some x) : ∃ y : Ac, y.enc = cs ∧ y.ok := by
  obtain ⟨xs, n, _, _, hl, hxl, hf⟩ := DataW.trod_struct Try.underlying46 h
  rw [Try.cells_Ac] at hl
  obtain ⟨c0, c1, c2, rfl⟩ : ∃ c0 c1 c2, cs = [c0, c1, c2] := by
    match cs, hl with
    | [c0, c1, c2], _ => exact ⟨c0, c1, c2, rfl⟩
  have f0 := hf 0 _ rfl
  have f1 := hf 1 _ rfl
  have f2 := hf 2 _ rfl
  simp at hxl
  simp [Try.cells_U8, Try.cells_Bo] at f0 f1 f2
  rw [List.getElem?_eq_getElem (by omega)] at f0 f1 f2
  obtain ⟨b, hb, _⟩ := DataW.trod_bool Try.underlying4 f0
  obtain ⟨a, ha, _, wa⟩ := DataW.trod_int Try.underlying5 f1
  obtain ⟨c, hc, _, wc⟩ := DataW.trod_int Try.underlying5 f2
  simp at hb ha hc
  subst hb ha hc
  have h1 := bounds_u8 wa
  have h2 := bounds_u8 wc
  exact ⟨⟨b, a, c⟩, rfl, by show 0 ≤ a ∧ a < 256; omega, by show 0 ≤ c ∧ c < 256; omega⟩
end Go.Proofs.Ytebbmplbpgilaaa
