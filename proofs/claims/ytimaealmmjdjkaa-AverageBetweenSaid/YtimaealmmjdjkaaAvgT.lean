/- The types of chapter 15: how an argument's reading becomes an attempt, a list of attempts, of numbers, a fraction. -/
import Derived.Test.YtimaealmmjdjkaaAvgS
import Derived.Test.YtimaealmmjdjkaaOpen
import Derived.Lib.SmallJoins
namespace Go.Proofs.Ytimaealmmjdjkaa
open Go.RowKit Go.WideShapes Go.ChangeShapes Go.Joins Go.Deep
set_option linter.unusedSimpArgs false
set_option linter.unusedVariables false

/-- a struct by value, out of what is known of its cells -/
theorem openV_of {α : Type} {en : α → List Value} {Q : α → Prop} {H : Type} {enc : TypeId × Value → H} {P : Program} {w : World} {base b0 : Nat} {r : Reach} {spare : Nat → Bool} {held : Bool} {t : TypeId} {fs : Array Field} {v : Value} {d : DataW H} {p : List MemPlace}
    (hs : P.underlying t = some (.struct fs)) (hE : ∀ fuel cs x, DataW.trod enc P w base spare held fuel t cs = some x → ∃ y : α, en y = cs ∧ Q y)
    (hv : Value.okWide P w r b0 t v) (h : DataW.Trod enc P w base spare held t v d p) : ∃ y : α, v = .agg ⟨en y⟩ ∧ Q y := by
  obtain ⟨cs, rfl, _⟩ := okWide_struct hs hv
  obtain ⟨fuel, hf⟩ := h
  obtain ⟨y, hy, hq⟩ := hE _ _ _ hf
  exact ⟨y, by rw [hy]; rfl, hq⟩

theorem Try.cells_Ra : Try.prog.cellsOf 29 = 2 := by kernel_rfl
theorem Try.cells_At : Try.prog.cellsOf 43 = 5 := by kernel_rfl
theorem Try.cells_In : Try.prog.cellsOf 3 = 1 := by kernel_rfl
def Ra.ok (c : Ra) : Prop := (Lit.int .i64 c.num).wf = true ∧ (Lit.int .i64 c.den).wf = true
theorem Ra.ok_i64 {c : Ra} (h : c.ok) : c.i64 := ⟨by unfold I64; exact bounds_i64 h.1, by unfold I64; exact bounds_i64 h.2⟩
def At.ok (c : At) : Prop := (Lit.int .i64 c.course).wf = true ∧ (Lit.int .i64 c.term).wf = true ∧ (Lit.int .i64 c.grade).wf = true ∧ (Lit.int .i64 c.campus).wf = true ∧ (Lit.int .i64 c.credits).wf = true
def zero_Ra : Value := .agg #[.int .i64 0, .int .i64 0]
def zero_At : Value := .agg #[.int .i64 0, .int .i64 0, .int .i64 0, .int .i64 0, .int .i64 0]
abbrev In.enc : Int → List Value := intE
def In.ok (n : Int) : Prop := (Lit.int .i64 n).wf = true
theorem openE_In {H : Type} {enc : TypeId × Value → H} {w : World} {base : Nat} {spare : Nat → Bool} {held : Bool} {fuel : Nat} {cs : List Value} {x : DataW H × List MemPlace}
    (h : DataW.trod enc Try.prog w base spare held fuel 3 cs = some x) : ∃ y : Int, In.enc y = cs ∧ In.ok y := by
  obtain ⟨a, ha, _, wa⟩ := DataW.trod_int Try.underlying3 h
  exact ⟨a, ha.symm, wa⟩

theorem openE_Ra {H : Type} {enc : TypeId × Value → H} {w : World} {base : Nat} {spare : Nat → Bool} {held : Bool} {fuel : Nat} {cs : List Value} {x : DataW H × List MemPlace}
    (h : DataW.trod enc Try.prog w base spare held fuel 29 cs = some x) : ∃ y : Ra, y.enc = cs ∧ y.ok := by
  obtain ⟨xs, n, _, _, hl, hxl, hf⟩ := DataW.trod_struct Try.underlying29 h
  rw [Try.cells_Ra] at hl
  obtain ⟨c0, c1, rfl⟩ : ∃ c0 c1, cs = [c0, c1] := by
    match cs, hl with
    | [c0, c1], _ => exact ⟨c0, c1, rfl⟩
  have f0 := hf 0 _ rfl
  have f1 := hf 1 _ rfl
  simp at hxl
  simp [Try.cells_In] at f0 f1
  rw [List.getElem?_eq_getElem (by omega)] at f0 f1
  obtain ⟨a, ha, _, wa⟩ := DataW.trod_int Try.underlying3 f0
  obtain ⟨b, hb, _, wb⟩ := DataW.trod_int Try.underlying3 f1
  simp at ha hb
  subst ha hb
  exact ⟨⟨a, b⟩, rfl, wa, wb⟩
theorem openE_At {H : Type} {enc : TypeId × Value → H} {w : World} {base : Nat} {spare : Nat → Bool} {held : Bool} {fuel : Nat} {cs : List Value} {x : DataW H × List MemPlace}
    (h : DataW.trod enc Try.prog w base spare held fuel 43 cs = some x) : ∃ y : At, y.enc = cs ∧ y.ok := by
  obtain ⟨xs, n, _, _, hl, hxl, hf⟩ := DataW.trod_struct Try.underlying43 h
  rw [Try.cells_At] at hl
  obtain ⟨c0, c1, c2, c3, c4, rfl⟩ : ∃ c0 c1 c2 c3 c4, cs = [c0, c1, c2, c3, c4] := by
    match cs, hl with
    | [c0, c1, c2, c3, c4], _ => exact ⟨c0, c1, c2, c3, c4, rfl⟩
  have f0 := hf 0 _ rfl
  have f1 := hf 1 _ rfl
  have f2 := hf 2 _ rfl
  have f3 := hf 3 _ rfl
  have f4 := hf 4 _ rfl
  simp at hxl
  simp [Try.cells_In] at f0 f1 f2 f3 f4
  rw [List.getElem?_eq_getElem (by omega)] at f0 f1 f2 f3 f4
  obtain ⟨a, ha, _, wa⟩ := DataW.trod_int Try.underlying3 f0
  obtain ⟨b, hb, _, wb⟩ := DataW.trod_int Try.underlying3 f1
  obtain ⟨c, hc, _, wc⟩ := DataW.trod_int Try.underlying3 f2
  obtain ⟨d, hd, _, wd⟩ := DataW.trod_int Try.underlying3 f3
  obtain ⟨e, he, _, we⟩ := DataW.trod_int Try.underlying3 f4
  simp at ha hb hc hd he
  subst ha hb hc hd he
  exact ⟨⟨a, b, c, d, e⟩, rfl, wa, wb, wc, wd, we⟩

theorem openV_Ra {H : Type} {enc : TypeId × Value → H} {w : World} {base b0 : Nat} {r : Reach} {spare : Nat → Bool} {held : Bool} {v : Value} {d : DataW H} {p : List MemPlace}
    (hv : Value.okWide Try.prog w r b0 29 v) (h : DataW.Trod enc Try.prog w base spare held 29 v d p) : ∃ y : Ra, v = y.v ∧ y.ok :=
  openV_of Try.underlying29 (fun _ _ _ h => openE_Ra h) hv h
theorem openV_At {H : Type} {enc : TypeId × Value → H} {w : World} {base b0 : Nat} {r : Reach} {spare : Nat → Bool} {held : Bool} {v : Value} {d : DataW H} {p : List MemPlace}
    (hv : Value.okWide Try.prog w r b0 43 v) (h : DataW.Trod enc Try.prog w base spare held 43 v d p) : ∃ y : At, v = y.v ∧ y.ok :=
  openV_of Try.underlying43 (fun _ _ _ h => openE_At h) hv h
end Go.Proofs.Ytimaealmmjdjkaa
