/- The crashes of JournalSurvives, read with a bound. -/
import Derived.Test.YtgbkhmoplocmkaaJouTU
namespace Go.Proofs.Ytgbkhmoplocmkaa
open Go.RowKit Go.WideShapes Go.ChangeShapes Go.Joins Go.Deep Go.Shelf
set_option linter.unusedSimpArgs false
set_option linter.unusedVariables false
set_option maxRecDepth 20000

structure Cr where
  sl : Sl
  stop : Bool
  left : Int
  deriving Inhabited
def Cr.enc (c : Cr) : List Value := [.slice c.sl.a c.sl.n c.sl.c, .bool c.stop, .int .u8 c.left]
theorem Cr.enc_len (c : Cr) : c.enc.length = 3 := rfl
theorem Try.cells_Cr : Try.prog.cellsOf 55 = 3 := by kernel_rfl
/-- a crash in memory -/
def CrOk (w : World) (N : Nat) (c : Cr) : Prop := (0 ≤ c.left ∧ c.left < 256) ∧ ∃ rs, Se w everyB c.sl rs ∧ rs.length ≤ N ∧ ∀ b ∈ rs, b.length ≤ N
section
variable {H : Type} {enc : TypeId × Value → H} {w : World} {base b0 : Nat} {r : Reach} {spare : Nat → Bool} {held : Bool} {v : Value} {d : DataW H} {p : List MemPlace} {N : Nat} {M : TypeId → DataW H → Prop}
theorem openE_CrM (hM : Meas (H := H) N M) {fuel : Nat} {cs : List Value} {x : DataW H × List MemPlace} (h : DataW.trod enc Try.prog w base spare held fuel 55 cs = some x) (hm : M 55 x.1) : ∃ y : Cr, y.enc = cs ∧ CrOk w N y := by
  obtain ⟨xs, n, _, hx, hl, hxl, hf⟩ := DataW.trod_struct Try.underlying55 h
  rw [Try.cells_Cr] at hl
  obtain ⟨c0, c1, c2, rfl⟩ : ∃ c0 c1 c2, cs = [c0, c1, c2] := by
    match cs, hl with
    | [c0, c1, c2], _ => exact ⟨c0, c1, c2, rfl⟩
  have f0 := hf 0 _ rfl
  have f1 := hf 1 _ rfl
  have f2 := hf 2 _ rfl
  simp at hxl
  simp [Try.cells_U8, Try.cells_Bo, Try.cells_SS] at f0 f1 f2
  rw [List.getElem?_eq_getElem (by omega)] at f0 f1 f2
  have hm0 : M 22 (xs[0]'(by omega)).1 := hM.fld (i := 0) (x := (xs[0]'(by omega)).1) Try.underlying55 (by rw [hx] at hm; exact hm) rfl (by rw [List.getElem?_map, List.getElem?_eq_getElem (by omega)]; rfl)
  obtain ⟨sv, hs, ss, h0, hn1, hn2⟩ := openE_SeM hM f0 hm0
  obtain ⟨a, ha, _⟩ := DataW.trod_bool Try.underlying4 f1
  obtain ⟨b, hb, _, wb⟩ := DataW.trod_int Try.underlying5 f2
  simp [slE] at hs ha hb
  subst hs ha hb
  have h2 := Go.bounds_u8 wb
  exact ⟨⟨sv, a, b⟩, rfl, ⟨by show 0 ≤ b ∧ b < 256; omega, ss, h0, hn1, hn2⟩⟩
theorem openV_CsM (hM : Meas (H := H) N M) (hv : Value.okWide Try.prog w r b0 53 v) (h : DataW.Trod enc Try.prog w base spare held 53 v d p) (hm : M 53 d) : ∃ y : Sl × List Cr, v = .slice y.1.a y.1.n y.1.c ∧ SlR w everyB 3 Cr.enc y.1 y.2 ∧ ∀ c ∈ y.2, CrOk w N c := by
  obtain ⟨al, ll, cl, rfl⟩ := okWide_slice Try.underlying53 hv
  obtain ⟨fuel, hf⟩ := h
  obtain ⟨xs, hl, h1, h2⟩ := open_readsM (en := Cr.enc) (Q := CrOk w N) (Me := M 55) Try.underlying53 Try.cells_Cr (by omega) (fun _ _ _ h hm => openE_CrM hM h hm) (fun el sp e => hM.el (sp := sp) Try.underlying53 (by rw [← e]; exact hm)) (by simpa [Value.cells] using hf)
  exact ⟨(⟨al, ll, cl⟩, xs), rfl, h1, h2⟩
end
def zero_Cs : Value := .slice none 0 0
end Go.Proofs.Ytgbkhmoplocmkaa
