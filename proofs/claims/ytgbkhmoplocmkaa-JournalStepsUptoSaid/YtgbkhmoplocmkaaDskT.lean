/- The types of chapter 45: how an argument's reading becomes a disk, a list of bytes. -/
import Derived.Test.YtgbkhmoplocmkaaDskA
import Derived.Test.YtgbkhmoplocmkaaOpen
import Derived.Lib.SmallJoins
namespace Go.Proofs.Ytgbkhmoplocmkaa
open Go.RowKit Go.WideShapes Go.ChangeShapes Go.Joins Go.Deep
set_option linter.unusedSimpArgs false
set_option linter.unusedVariables false
set_option maxRecDepth 20000

theorem Try.cells_U8 : Try.prog.cellsOf 5 = 1 := by kernel_rfl
theorem Try.cells_Sl : Try.prog.cellsOf 35 = 1 := by kernel_rfl
theorem Try.cells_SS : Try.prog.cellsOf 22 = 1 := by kernel_rfl
theorem Try.cells_WW : Try.prog.cellsOf 23 = 1 := by kernel_rfl
theorem Try.cells_Wr : Try.prog.cellsOf 76 = 2 := by kernel_rfl
theorem Try.cells_Dk : Try.prog.cellsOf 25 = 4 := by kernel_rfl
theorem Try.cells_Int : Try.prog.cellsOf 3 = 1 := by kernel_rfl
theorem Try.cells_Bo : Try.prog.cellsOf 4 = 1 := by kernel_rfl
def everyB : Nat → Prop := fun _ => True
def zero_Dk : Value := .agg #[.slice none 0 0, .slice none 0 0, .int .i64 0, .bool false]

section
variable {H : Type} {enc : TypeId × Value → H} {w : World} {base : Nat} {spare : Nat → Bool} {held : Bool}

theorem openE_U8 {fuel : Nat} {cs : List Value} {x : DataW H × List MemPlace} (h : DataW.trod enc Try.prog w base spare held fuel 5 cs = some x) : ∃ y : Int, byteE y = cs ∧ (0 ≤ y ∧ y < 256) := by
  obtain ⟨a, ha, _, wa⟩ := DataW.trod_int Try.underlying5 h
  refine ⟨a, ha.symm, ?_⟩
  have := bounds_u8 wa
  omega

/-- a slice's cells are one header -/
theorem open_hdr {t e : TypeId} {fuel : Nat} {cs : List Value} {x : DataW H × List MemPlace} (ht : Try.prog.underlying t = some (.slice e)) (h : DataW.trod enc Try.prog w base spare held fuel t cs = some x) : ∃ a l c, cs = [.slice a l c] := by
  rcases open_slice ht h with ⟨hcs, _⟩ | ⟨a, len, cap, m, n, D, Pl, hcs, _⟩
  · exact ⟨_, _, _, hcs⟩
  · exact ⟨_, _, _, hcs⟩
/-- a slice whatever its elements, as a header that reads -/
theorem open_slr {α : Type} [Inhabited α] {en : α → List Value} {Q : α → Prop} {t e : TypeId} {sz : Nat} {fuel : Nat} {cs : List Value} {x : DataW H × List MemPlace} (ht : Try.prog.underlying t = some (.slice e)) (hsz : Try.prog.cellsOf e = sz) (hpos : 0 < sz)
    (hel : ∀ fuel cs x, DataW.trod enc Try.prog w base spare held fuel e cs = some x → ∃ y : α, en y = cs ∧ Q y) (h : DataW.trod enc Try.prog w base spare held fuel t cs = some x) :
    ∃ (s : Sl) (xs : List α), slE s = cs ∧ SlR w everyB sz en s xs ∧ ∀ y ∈ xs, Q y := by
  obtain ⟨a, l, c, rfl⟩ := open_hdr ht h
  obtain ⟨d, ps⟩ := x
  obtain ⟨A, c', xs, hv, h1, h2, h3, h4, h5⟩ := open_reads (v := .slice a l c) (d := d) (ps := ps) ht hsz hpos hel ⟨a, l, c, rfl⟩ ⟨fuel, by simpa [Value.cells] using h⟩
  simp only [Value.slice.injEq] at hv
  obtain ⟨rfl, rfl, rfl⟩ := hv
  exact ⟨⟨a, xs.length, c⟩, xs, rfl, ⟨rfl, h1, h2, fun h => (h5 h).2, h3, fun _ _ _ => trivial⟩, h4⟩
theorem openE_By {fuel : Nat} {cs : List Value} {x : DataW H × List MemPlace} (h : DataW.trod enc Try.prog w base spare held fuel 35 cs = some x) : ∃ s : Sl, slE s = cs ∧ ∃ bs, By w everyB s bs := by
  obtain ⟨s, xs, e, h1, h2⟩ := open_slr (en := byteE) (Q := fun y => 0 ≤ y ∧ y < 256) Try.underlying35 Try.cells_U8 (by omega) (fun _ _ _ h => openE_U8 h) h
  exact ⟨s, e, xs, h1, h2⟩
theorem choose_list {α β : Type} {R : α → β → Prop} : ∀ xs : List α, (∀ x ∈ xs, ∃ y, R x y) → ∃ ys : List β, xs.length = ys.length ∧ ∀ (i : Nat) x y, xs[i]? = some x → ys[i]? = some y → R x y
  | [], _ => ⟨[], rfl, by simp⟩
  | x :: xs, h => by
    obtain ⟨y, hy⟩ := h x (List.mem_cons_self ..)
    obtain ⟨ys, hl, hr⟩ := choose_list xs (fun z hz => h z (List.mem_cons_of_mem _ hz))
    refine ⟨y :: ys, by simp [hl], fun i a b ha hb => ?_⟩
    cases i with
    | zero => simp at ha hb; subst ha hb; exact hy
    | succ i => exact hr i a b (by simpa using ha) (by simpa using hb)
theorem openE_Se {fuel : Nat} {cs : List Value} {x : DataW H × List MemPlace} (h : DataW.trod enc Try.prog w base spare held fuel 22 cs = some x) : ∃ s : Sl, slE s = cs ∧ ∃ ss, Se w everyB s ss := by
  obtain ⟨s, xs, e, h1, h2⟩ := open_slr (en := slE) (Q := fun y => ∃ bs, By w everyB y bs) Try.underlying22 Try.cells_Sl (by omega) (fun _ _ _ h => openE_By h) h
  obtain ⟨ss, hl, hr⟩ := choose_list (R := fun (s : Sl) bs => By w everyB s bs) xs h2
  exact ⟨s, e, ss, xs, h1, hl, hr⟩
theorem openE_Wr {fuel : Nat} {cs : List Value} {x : DataW H × List MemPlace} (h : DataW.trod enc Try.prog w base spare held fuel 76 cs = some x) : ∃ y : Int × Sl, wrE y = cs ∧ ∃ bs, By w everyB y.2 bs := by
  obtain ⟨xs, n, _, _, hl, hxl, hf⟩ := DataW.trod_struct Try.underlying76 h
  rw [Try.cells_Wr] at hl
  obtain ⟨c0, c1, rfl⟩ : ∃ c0 c1, cs = [c0, c1] := by
    match cs, hl with
    | [c0, c1], _ => exact ⟨c0, c1, rfl⟩
  have f0 := hf 0 _ rfl
  have f1 := hf 1 _ rfl
  simp at hxl
  simp [Try.cells_Int, Try.cells_Sl] at f0 f1
  rw [List.getElem?_eq_getElem (by omega)] at f0 f1
  obtain ⟨a, ha, _, wa⟩ := DataW.trod_int Try.underlying3 f0
  obtain ⟨s, hs, bs, hb⟩ := openE_By f1
  simp at ha
  simp [slE] at hs
  subst ha hs
  exact ⟨(a, s), rfl, bs, hb⟩
theorem openE_Pe {fuel : Nat} {cs : List Value} {x : DataW H × List MemPlace} (h : DataW.trod enc Try.prog w base spare held fuel 23 cs = some x) : ∃ s : Sl, slE s = cs ∧ ∃ ps, Pe w everyB s ps := by
  obtain ⟨s, xs, e, h1, h2⟩ := open_slr (en := wrE) (Q := fun y => ∃ bs, By w everyB y.2 bs) Try.underlying23 Try.cells_Wr (by omega) (fun _ _ _ h => openE_Wr h) h
  obtain ⟨ps, hl, hr⟩ := choose_list (R := fun (s : Int × Sl) (p : Int × List Int) => s.1 = p.1 ∧ By w everyB s.2 p.2) xs (fun y hy => by obtain ⟨bs, hb⟩ := h2 y hy; exact ⟨(y.1, bs), rfl, hb⟩)
  exact ⟨s, e, ps, xs, h1, hl, hr⟩
theorem openE_Dk {fuel : Nat} {cs : List Value} {x : DataW H × List MemPlace} (h : DataW.trod enc Try.prog w base spare held fuel 25 cs = some x) : ∃ sv pv d, dkV sv pv d = .agg ⟨cs⟩ ∧ Di w everyB sv pv d := by
  obtain ⟨xs, n, _, _, hl, hxl, hf⟩ := DataW.trod_struct Try.underlying25 h
  rw [Try.cells_Dk] at hl
  obtain ⟨c0, c1, c2, c3, rfl⟩ : ∃ c0 c1 c2 c3, cs = [c0, c1, c2, c3] := by
    match cs, hl with
    | [c0, c1, c2, c3], _ => exact ⟨c0, c1, c2, c3, rfl⟩
  have f0 := hf 0 _ rfl
  have f1 := hf 1 _ rfl
  have f2 := hf 2 _ rfl
  have f3 := hf 3 _ rfl
  simp at hxl
  simp [Try.cells_Int, Try.cells_SS, Try.cells_WW, Try.cells_Bo] at f0 f1 f2 f3
  rw [List.getElem?_eq_getElem (by omega)] at f0 f1 f2 f3
  obtain ⟨sv, hs, ss, h0⟩ := openE_Se f0
  obtain ⟨pv, hp, ps, h1⟩ := openE_Pe f1
  obtain ⟨a, ha, _, wa⟩ := DataW.trod_int Try.underlying3 f2
  obtain ⟨b, hb, _⟩ := DataW.trod_bool Try.underlying4 f3
  simp [slE] at hs hp ha hb
  subst hs hp ha hb
  exact ⟨sv, pv, ⟨ss, ps, a, b⟩, rfl, h0, h1⟩
end
/-- a disk by value -/
theorem openV_Dk {H : Type} {enc : TypeId × Value → H} {w : World} {base b0 : Nat} {r : Reach} {spare : Nat → Bool} {held : Bool} {v : Value} {d : DataW H} {p : List MemPlace}
    (hv : Value.okWide Try.prog w r b0 25 v) (h : DataW.Trod enc Try.prog w base spare held 25 v d p) : ∃ sv pv x, v = dkV sv pv x ∧ Di w everyB sv pv x := by
  obtain ⟨cs, rfl, _⟩ := okWide_struct Try.underlying25 hv
  obtain ⟨fuel, hf⟩ := h
  obtain ⟨sv, pv, x, e, hd⟩ := openE_Dk hf
  exact ⟨sv, pv, x, by rw [e]; rfl, hd⟩
/-- bytes by value -/
theorem openV_By {H : Type} {enc : TypeId × Value → H} {w : World} {base b0 : Nat} {r : Reach} {spare : Nat → Bool} {held : Bool} {v : Value} {d : DataW H} {p : List MemPlace}
    (hv : Value.okWide Try.prog w r b0 35 v) (h : DataW.Trod enc Try.prog w base spare held 35 v d p) : ∃ s bs, v = .slice s.a s.n s.c ∧ By w everyB s bs := by
  obtain ⟨al, ll, cl, rfl⟩ := okWide_slice Try.underlying35 hv
  obtain ⟨fuel, hf⟩ := h
  obtain ⟨s, e, bs, hb⟩ := openE_By hf
  have e2 : slE s = [.slice al ll cl] := by simpa [Value.cells] using e
  simp [slE] at e2
  exact ⟨s, bs, by rw [e2.1, e2.2.1, e2.2.2], hb⟩
end Go.Proofs.Ytgbkhmoplocmkaa
