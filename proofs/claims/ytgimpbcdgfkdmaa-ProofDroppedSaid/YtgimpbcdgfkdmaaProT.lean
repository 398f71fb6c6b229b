/- The types of chapter 20: how an argument's reading becomes a programme, attempts, uses, a cut, an audit. -/
import Derived.Test.YtgimpbcdgfkdmaaProS
import Derived.Test.YtgimpbcdgfkdmaaOpen
import Derived.Lib.SmallJoins
namespace Go.Proofs.Ytgimpbcdgfkdmaa
open Go.RowKit Go.WideShapes Go.ChangeShapes Go.Joins Go.Deep
set_option linter.unusedSimpArgs false
set_option linter.unusedVariables false
set_option maxRecDepth 100000

theorem Try.cells_In : Try.prog.cellsOf 3 = 1 := by kernel_rfl
theorem Try.cells_Bo : Try.prog.cellsOf 4 = 1 := by kernel_rfl
theorem Try.cells_St : Try.prog.cellsOf 9 = 1 := by kernel_rfl
theorem Try.cells_Ra : Try.prog.cellsOf 23 = 2 := by kernel_rfl
theorem Try.cells_At : Try.prog.cellsOf 47 = 5 := by kernel_rfl
theorem Try.cells_Us : Try.prog.cellsOf 51 = 3 := by kernel_rfl
theorem Try.cells_Rq : Try.prog.cellsOf 57 = 6 := by kernel_rfl
theorem Try.cells_Pg : Try.prog.cellsOf 26 = 7 := by kernel_rfl
theorem Try.cells_Au : Try.prog.cellsOf 39 = 3 := by kernel_rfl
theorem Try.cells_SI : Try.prog.cellsOf 55 = 1 := by kernel_rfl
theorem Try.cells_SS : Try.prog.cellsOf 54 = 1 := by kernel_rfl
theorem Try.cells_SR : Try.prog.cellsOf 24 = 1 := by kernel_rfl
theorem Try.cells_SU : Try.prog.cellsOf 28 = 1 := by kernel_rfl
theorem Try.cells_SB : Try.prog.cellsOf 29 = 1 := by kernel_rfl
def zero_Pg : Value := .agg #[.string ⟨#[]⟩, .int .i64 0, .int .i64 0, .int .i64 0, .int .i64 0, .int .i64 0, .slice none 0 0]
def zero_Au : Value := .agg #[.slice none 0 0, .int .i64 0, .slice none 0 0]
def zero_At : Value := .agg #[.int .i64 0, .int .i64 0, .int .i64 0, .int .i64 0, .int .i64 0]
def At.ok (c : At) : Prop := (Lit.int .i64 c.course).wf = true ∧ (Lit.int .i64 c.term).wf = true ∧ (Lit.int .i64 c.grade).wf = true ∧ (Lit.int .i64 c.campus).wf = true ∧ (Lit.int .i64 c.credits).wf = true
def Us.ok (c : Us) : Prop := (Lit.int .i64 c.att).wf = true ∧ (Lit.int .i64 c.req).wf = true ∧ (Lit.int .i64 c.credits).wf = true
abbrev Bo.enc : Bool → List Value := boolE
def Bo.ok (n : Bool) : Prop := True
def slE (s : Sl) : List Value := [.slice s.a s.n s.c]

section
variable {H : Type} {enc : TypeId × Value → H} {w : World} {base : Nat} {spare : Nat → Bool} {held : Bool}

theorem openE_In {fuel : Nat} {cs : List Value} {x : DataW H × List MemPlace} (h : DataW.trod enc Try.prog w base spare held fuel 3 cs = some x) : ∃ y : Int, intE y = cs ∧ (Lit.int .i64 y).wf = true := by
  obtain ⟨a, ha, _, wa⟩ := DataW.trod_int Try.underlying3 h
  exact ⟨a, ha.symm, wa⟩
theorem openE_Bo {fuel : Nat} {cs : List Value} {x : DataW H × List MemPlace} (h : DataW.trod enc Try.prog w base spare held fuel 4 cs = some x) : ∃ y : Bool, Bo.enc y = cs ∧ Bo.ok y := by
  obtain ⟨a, ha, _⟩ := DataW.trod_bool Try.underlying4 h
  exact ⟨a, ha.symm, trivial⟩
/-- a slice's cells are one header -/
theorem open_hdr {t e : TypeId} {fuel : Nat} {cs : List Value} {x : DataW H × List MemPlace} (ht : Try.prog.underlying t = some (.slice e)) (h : DataW.trod enc Try.prog w base spare held fuel t cs = some x) : ∃ a l c, cs = [.slice a l c] := by
  rcases open_slice ht h with ⟨hcs, _⟩ | ⟨a, len, cap, m, n, D, Pl, hcs, _⟩
  · exact ⟨_, _, _, hcs⟩
  · exact ⟨_, _, _, hcs⟩
/-- a slice whatever its elements, as a header that reads -/
theorem open_slr {α : Type} [Inhabited α] {en : α → List Value} {Q : α → Prop} {t e : TypeId} {sz : Nat} {fuel : Nat} {cs : List Value} {x : DataW H × List MemPlace} (ht : Try.prog.underlying t = some (.slice e)) (hsz : Try.prog.cellsOf e = sz) (hpos : 0 < sz)
    (hel : ∀ fuel cs x, DataW.trod enc Try.prog w base spare held fuel e cs = some x → ∃ y : α, en y = cs ∧ Q y) (h : DataW.trod enc Try.prog w base spare held fuel t cs = some x) :
    ∃ (s : Sl) (xs : List α), slE s = cs ∧ SlR w everyT sz en s xs ∧ ∀ y ∈ xs, Q y := by
  obtain ⟨a, l, c, rfl⟩ := open_hdr ht h
  obtain ⟨d, ps⟩ := x
  obtain ⟨A, c', xs, hv, h1, h2, h3, h4, h5⟩ := open_reads (v := .slice a l c) (d := d) (ps := ps) ht hsz hpos hel ⟨a, l, c, rfl⟩ ⟨fuel, by simpa [Value.cells] using h⟩
  simp only [Value.slice.injEq] at hv
  obtain ⟨rfl, rfl, rfl⟩ := hv
  exact ⟨⟨a, xs.length, c⟩, xs, rfl, ⟨rfl, h1, h2, fun h => (h5 h).2, h3, fun _ _ _ => trivial⟩, h4⟩
theorem openE_At {fuel : Nat} {cs : List Value} {x : DataW H × List MemPlace} (h : DataW.trod enc Try.prog w base spare held fuel 47 cs = some x) : ∃ y : At, At.enc y = cs ∧ y.ok := by
  obtain ⟨xs, n, _, _, hl, hxl, hf⟩ := DataW.trod_struct Try.underlying47 h
  rw [Try.cells_At] at hl
  obtain ⟨c0, c1, c2, c3, c4, rfl⟩ : ∃ c0 c1 c2 c3 c4, cs = [c0, c1, c2, c3, c4] := by
    match cs, hl with
    | [c0, c1, c2, c3, c4], _ => exact ⟨c0, c1, c2, c3, c4, rfl⟩
  have f0 := hf 0 _ rfl
  have f1 := hf 1 _ rfl
  have f2 := hf 2 _ rfl
  have f3 := hf 3 _ rfl
  have f4 := hf 4 _ rfl
  simp at hxl
  simp [Try.cells_In] at f0 f1 f2 f3 f4
  rw [List.getElem?_eq_getElem (by omega)] at f0 f1 f2 f3 f4
  obtain ⟨a, ha, _, wa⟩ := DataW.trod_int Try.underlying3 f0
  obtain ⟨b, hb, _, wb⟩ := DataW.trod_int Try.underlying3 f1
  obtain ⟨c, hc, _, wc⟩ := DataW.trod_int Try.underlying3 f2
  obtain ⟨d, hd, _, wd⟩ := DataW.trod_int Try.underlying3 f3
  obtain ⟨e, he, _, we⟩ := DataW.trod_int Try.underlying3 f4
  simp at ha hb hc hd he
  subst ha hb hc hd he
  exact ⟨⟨a, b, c, d, e⟩, rfl, wa, wb, wc, wd, we⟩
theorem openE_Us {fuel : Nat} {cs : List Value} {x : DataW H × List MemPlace} (h : DataW.trod enc Try.prog w base spare held fuel 51 cs = some x) : ∃ y : Us, Us.enc y = cs ∧ y.ok := by
  obtain ⟨xs, n, _, _, hl, hxl, hf⟩ := DataW.trod_struct Try.underlying51 h
  rw [Try.cells_Us] at hl
  obtain ⟨c0, c1, c2, rfl⟩ : ∃ c0 c1 c2, cs = [c0, c1, c2] := by
    match cs, hl with
    | [c0, c1, c2], _ => exact ⟨c0, c1, c2, rfl⟩
  have f0 := hf 0 _ rfl
  have f1 := hf 1 _ rfl
  have f2 := hf 2 _ rfl
  simp at hxl
  simp [Try.cells_In] at f0 f1 f2
  rw [List.getElem?_eq_getElem (by omega)] at f0 f1 f2
  obtain ⟨a, ha, _, wa⟩ := DataW.trod_int Try.underlying3 f0
  obtain ⟨b, hb, _, wb⟩ := DataW.trod_int Try.underlying3 f1
  obtain ⟨c, hc, _, wc⟩ := DataW.trod_int Try.underlying3 f2
  simp at ha hb hc
  subst ha hb hc
  exact ⟨⟨a, b, c⟩, rfl, wa, wb, wc⟩
theorem openE_Ra {fuel : Nat} {cs : List Value} {x : DataW H × List MemPlace} (h : DataW.trod enc Try.prog w base spare held fuel 23 cs = some x) : ∃ y : Ra, cs = [.int .i64 y.num, .int .i64 y.den] ∧ y.i64 := by
  obtain ⟨xs, n, _, _, hl, hxl, hf⟩ := DataW.trod_struct Try.underlying23 h
  rw [Try.cells_Ra] at hl
  obtain ⟨c0, c1, rfl⟩ : ∃ c0 c1, cs = [c0, c1] := by
    match cs, hl with
    | [c0, c1], _ => exact ⟨c0, c1, rfl⟩
  have f0 := hf 0 _ rfl
  have f1 := hf 1 _ rfl
  simp at hxl
  simp [Try.cells_In] at f0 f1
  rw [List.getElem?_eq_getElem (by omega)] at f0 f1
  obtain ⟨a, ha, _, wa⟩ := DataW.trod_int Try.underlying3 f0
  obtain ⟨b, hb, _, wb⟩ := DataW.trod_int Try.underlying3 f1
  simp at ha hb
  subst ha hb
  exact ⟨⟨a, b⟩, rfl, by unfold I64; exact bounds_i64 wa, by unfold I64; exact bounds_i64 wb⟩
theorem openE_Rq {fuel : Nat} {cs : List Value} {x : DataW H × List MemPlace} (h : DataW.trod enc Try.prog w base spare held fuel 57 cs = some x) : ∃ y : RqH, RqH.enc y = cs ∧ ∃ fr, SlR w everyT 1 intE y.fr fr := by
  obtain ⟨xs, n, _, _, hl, hxl, hf⟩ := DataW.trod_struct Try.underlying57 h
  rw [Try.cells_Rq] at hl
  obtain ⟨c0, c1, c2, c3, c4, c5, rfl⟩ : ∃ c0 c1 c2 c3 c4 c5, cs = [c0, c1, c2, c3, c4, c5] := by
    match cs, hl with
    | [c0, c1, c2, c3, c4, c5], _ => exact ⟨c0, c1, c2, c3, c4, c5, rfl⟩
  have f0 := hf 0 _ rfl
  have f1 := hf 1 _ rfl
  have f2 := hf 2 _ rfl
  have f3 := hf 3 _ rfl
  have f4 := hf 4 _ rfl
  have f5 := hf 5 _ rfl
  simp at hxl
  simp [Try.cells_In, Try.cells_St, Try.cells_Bo, Try.cells_SI, Try.cells_SS] at f0 f1 f2 f3 f4 f5
  rw [List.getElem?_eq_getElem (by omega)] at f0 f1 f2 f3 f4 f5
  obtain ⟨s, hs, _⟩ := DataW.trod_string Try.underlying9 f0
  obtain ⟨a, ha, _, wa⟩ := DataW.trod_int Try.underlying3 f1
  obtain ⟨b, hb, _, wb⟩ := DataW.trod_int Try.underlying3 f2
  obtain ⟨c, hc, _⟩ := DataW.trod_bool Try.underlying4 f3
  obtain ⟨na, nl, nc, hn⟩ := open_hdr Try.underlying54 f4
  obtain ⟨sf, xs', e, h1, _⟩ := open_slr (en := intE) (Q := fun y => (Lit.int .i64 y).wf = true) Try.underlying55 Try.cells_In (by omega) (fun _ _ _ h => openE_In h) f5
  simp [slE] at hs ha hb hc hn e
  subst hs ha hb hc hn e
  exact ⟨⟨s, a, b, c, ⟨na, nl, nc⟩, sf⟩, rfl, xs', h1⟩
theorem choose_list {α β : Type} {R : α → β → Prop} : ∀ xs : List α, (∀ x ∈ xs, ∃ y, R x y) → ∃ ys : List β, xs.length = ys.length ∧ ∀ (i : Nat) x y, xs[i]? = some x → ys[i]? = some y → R x y
  | [], _ => ⟨[], rfl, by simp⟩
  | x :: xs, h => by
    obtain ⟨y, hy⟩ := h x (List.mem_cons_self ..)
    obtain ⟨ys, hl, hr⟩ := choose_list xs (fun z hz => h z (List.mem_cons_of_mem _ hz))
    refine ⟨y :: ys, by simp [hl], fun i a b ha hb => ?_⟩
    cases i with
    | zero => simp at ha hb; subst ha hb; exact hy
    | succ i => exact hr i a b (by simpa using ha) (by simpa using hb)
theorem openE_Rs {fuel : Nat} {cs : List Value} {x : DataW H × List MemPlace} (h : DataW.trod enc Try.prog w base spare held fuel 24 cs = some x) : ∃ s : Sl, slE s = cs ∧ ∃ qs, Rqs w everyT s qs := by
  obtain ⟨s, xs, e, h1, h2⟩ := open_slr (en := RqH.enc) (Q := fun y => ∃ fr, SlR w everyT 1 intE y.fr fr) Try.underlying24 Try.cells_Rq (by omega) (fun _ _ _ h => openE_Rq h) h
  obtain ⟨qs, hl, hr⟩ := choose_list (R := fun (a : RqH) (q : Rq) => a.credits = q.credits ∧ a.grade = q.grade ∧ a.home = q.home ∧ SlR w everyT 1 intE a.fr q.fr) xs (fun y hy => by
    obtain ⟨fr, hf⟩ := h2 y hy
    exact ⟨⟨y.credits, y.grade, y.home, fr⟩, rfl, rfl, rfl, hf⟩)
  exact ⟨s, e, qs, xs, h1, hl, hr⟩
theorem openE_Pg {fuel : Nat} {cs : List Value} {x : DataW H × List MemPlace} (h : DataW.trod enc Try.prog w base spare held fuel 26 cs = some x) : ∃ (p : Pg) (s : Sl), pgC p s = cs ∧ Rqs w everyT s p.reqs ∧ p.mean.i64 := by
  obtain ⟨xs, n, _, _, hl, hxl, hf⟩ := DataW.trod_struct Try.underlying26 h
  rw [Try.cells_Pg] at hl
  obtain ⟨c0, c1, c2, c3, c4, c5, c6, rfl⟩ : ∃ c0 c1 c2 c3 c4 c5 c6, cs = [c0, c1, c2, c3, c4, c5, c6] := by
    match cs, hl with
    | [c0, c1, c2, c3, c4, c5, c6], _ => exact ⟨c0, c1, c2, c3, c4, c5, c6, rfl⟩
  have f0 := hf 0 _ rfl
  have f1 := hf 1 _ rfl
  have f2 := hf 2 _ rfl
  have f3 := hf 3 _ rfl
  have f4 := hf 4 _ rfl
  have f5 := hf 5 _ rfl
  simp at hxl
  simp [Try.cells_In, Try.cells_St, Try.cells_Ra, Try.cells_SR] at f0 f1 f2 f3 f4 f5
  rw [List.getElem?_eq_getElem (by omega)] at f0 f1 f2 f3 f4 f5
  obtain ⟨s, hs, _⟩ := DataW.trod_string Try.underlying9 f0
  obtain ⟨a, ha, _, wa⟩ := DataW.trod_int Try.underlying3 f1
  obtain ⟨b, hb, _, wb⟩ := DataW.trod_int Try.underlying3 f2
  obtain ⟨c, hc, _, wc⟩ := DataW.trod_int Try.underlying3 f3
  obtain ⟨m, hm, hmi⟩ := openE_Ra f4
  obtain ⟨sr, e, qs, hq⟩ := openE_Rs f5
  simp [slE] at hs ha hb hc hm e
  obtain ⟨hm1, hm2⟩ := hm
  subst hs ha hb hc hm1 hm2 e
  exact ⟨⟨s, a, b, c, m, qs⟩, sr, rfl, hq, hmi⟩
theorem openE_Au {fuel : Nat} {cs : List Value} {x : DataW H × List MemPlace} (h : DataW.trod enc Try.prog w base spare held fuel 39 cs = some x) : ∃ (u : Sl) (M : Int) (cv : Sl) (us : List Us) (bs : List Bool), auC u M cv = cs ∧ SlR w everyT 3 Us.enc u us ∧ SlR w everyT 1 boolE cv bs ∧ (Lit.int .i64 M).wf = true := by
  obtain ⟨xs, n, _, _, hl, hxl, hf⟩ := DataW.trod_struct Try.underlying39 h
  rw [Try.cells_Au] at hl
  obtain ⟨c0, c1, c2, rfl⟩ : ∃ c0 c1 c2, cs = [c0, c1, c2] := by
    match cs, hl with
    | [c0, c1, c2], _ => exact ⟨c0, c1, c2, rfl⟩
  have f0 := hf 0 _ rfl
  have f1 := hf 1 _ rfl
  have f2 := hf 2 _ rfl
  simp at hxl
  simp [Try.cells_In, Try.cells_SU, Try.cells_SB] at f0 f1 f2
  rw [List.getElem?_eq_getElem (by omega)] at f0 f1 f2
  obtain ⟨u, us, e0, h0, _⟩ := open_slr (en := Us.enc) (Q := Us.ok) Try.underlying28 Try.cells_Us (by omega) (fun _ _ _ h => openE_Us h) f0
  obtain ⟨a, ha, _, wa⟩ := DataW.trod_int Try.underlying3 f1
  obtain ⟨cv, bs, e2, h2, _⟩ := open_slr (en := boolE) (Q := Bo.ok) Try.underlying29 Try.cells_Bo (by omega) (fun _ _ _ h => openE_Bo h) f2
  simp [slE] at e0 ha e2
  subst e0 ha e2
  exact ⟨u, a, cv, us, bs, rfl, h0, h2, wa⟩
end
/-- a programme by value -/
theorem openV_Pg {H : Type} {enc : TypeId × Value → H} {w : World} {base b0 : Nat} {r : Reach} {spare : Nat → Bool} {held : Bool} {v : Value} {d : DataW H} {p : List MemPlace}
    (hv : Value.okWide Try.prog w r b0 26 v) (h : DataW.Trod enc Try.prog w base spare held 26 v d p) : ∃ y : Pg × Sl, v = pgV y.1 y.2 ∧ Rqs w everyT y.2 y.1.reqs ∧ y.1.mean.i64 := by
  obtain ⟨cs, rfl, _⟩ := okWide_struct Try.underlying26 hv
  obtain ⟨fuel, hf⟩ := h
  obtain ⟨q, s, e, h1, h2⟩ := openE_Pg hf
  exact ⟨(q, s), by
    have : cs = (pgC q s).toArray := by apply Array.toList_inj.1; exact e.symm
    rw [this]; rfl, h1, h2⟩
/-- an audit by value -/
theorem openV_Au {H : Type} {enc : TypeId × Value → H} {w : World} {base b0 : Nat} {r : Reach} {spare : Nat → Bool} {held : Bool} {v : Value} {d : DataW H} {p : List MemPlace}
    (hv : Value.okWide Try.prog w r b0 39 v) (h : DataW.Trod enc Try.prog w base spare held 39 v d p) : ∃ y : Sl × Int × Sl × List Us × List Bool, v = auV y.1 y.2.1 y.2.2.1 ∧ SlR w everyT 3 Us.enc y.1 y.2.2.2.1 ∧ SlR w everyT 1 boolE y.2.2.1 y.2.2.2.2 ∧ (Lit.int .i64 y.2.1).wf = true := by
  obtain ⟨cs, rfl, _⟩ := okWide_struct Try.underlying39 hv
  obtain ⟨fuel, hf⟩ := h
  obtain ⟨u, M, cv, us, bs, e, h1, h2, h3⟩ := openE_Au hf
  exact ⟨(u, M, cv, us, bs), by
    have : cs = (auC u M cv).toArray := by apply Array.toList_inj.1; exact e.symm
    rw [this]; rfl, h1, h2, h3⟩
theorem openV_At {H : Type} {enc : TypeId × Value → H} {w : World} {base b0 : Nat} {r : Reach} {spare : Nat → Bool} {held : Bool} {v : Value} {d : DataW H} {p : List MemPlace}
    (hv : Value.okWide Try.prog w r b0 47 v) (h : DataW.Trod enc Try.prog w base spare held 47 v d p) : ∃ y : At, v = y.v ∧ y.ok := by
  obtain ⟨cs, rfl, _⟩ := okWide_struct Try.underlying47 hv
  obtain ⟨fuel, hf⟩ := h
  obtain ⟨y, e, h1⟩ := openE_At hf
  exact ⟨y, by
    have : cs = y.enc.toArray := by apply Array.toList_inj.1; exact e.symm
    rw [this]; rfl, h1⟩
end Go.Proofs.Ytgimpbcdgfkdmaa
