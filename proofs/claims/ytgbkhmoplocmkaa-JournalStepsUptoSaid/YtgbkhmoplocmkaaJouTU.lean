/- The types of chapter 46, with a bound on what is read (bulk: the second form; weights: the reach). -/
import Derived.Test.YtgbkhmoplocmkaaJouT
namespace Go.Proofs.Ytgbkhmoplocmkaa
open Go.RowKit Go.WideShapes Go.ChangeShapes Go.Joins Go.Deep Go.Shelf
set_option linter.unusedSimpArgs false
set_option linter.unusedVariables false
set_option maxRecDepth 20000

theorem bulk_one {H : Type} (d : DataW H) : 1 ≤ Rows.uptoBulk d := by
  cases d with
  | lit l => cases l <;> simp [Rows.uptoBulk]
  | _ => simp [Rows.uptoBulk]
theorem bulk_part {H : Type} {d : DataW H} : ∀ {l : List (DataW H)}, d ∈ l → Rows.uptoBulk d ≤ Rows.uptoBulkAll l
  | [], h => by cases h
  | x :: r, h => by
    simp only [Rows.uptoBulkAll]
    rcases List.mem_cons.1 h with rfl | h
    · omega
    · have := bulk_part h
      omega
theorem bulk_count {H : Type} : ∀ (l : List (DataW H)), l.length ≤ Rows.uptoBulkAll l
  | [] => by simp [Rows.uptoBulkAll]
  | x :: r => by
    have h1 := bulk_one x
    have h2 := bulk_count r
    simp only [Rows.uptoBulkAll, List.length_cons]
    omega
theorem bulk_slice {H : Type} (el sp : List (DataW H)) : el.length ≤ Rows.uptoBulk (.slice el sp) ∧ ∀ x ∈ el, Rows.uptoBulk x ≤ Rows.uptoBulk (.slice el sp) := by
  have h1 := bulk_count el
  refine ⟨?_, fun x hx => ?_⟩
  · simp only [Rows.uptoBulk]
    omega
  · have := bulk_part hx
    simp only [Rows.uptoBulk]
    omega

section
variable {H : Type} {enc : TypeId × Value → H} {w : World} {base b0 : Nat} {r : Reach} {spare : Nat → Bool} {held : Bool} {v : Value} {d : DataW H} {p : List MemPlace}
/-- what a bound gives -/
structure Meas (N : Nat) (M : TypeId → DataW H → Prop) : Prop where
  len : ∀ {t e : TypeId} {el sp : List (DataW H)}, Try.prog.underlying t = some (.slice e) → 0 < Try.prog.bytesOf e → M t (.slice el sp) → el.length ≤ N
  el : ∀ {t e : TypeId} {el sp : List (DataW H)}, Try.prog.underlying t = some (.slice e) → M t (.slice el sp) → ∀ x ∈ el, M e x
  fld : ∀ {t : TypeId} {fs : Array Field} {ps : List (DataW H)} {i : Nat} {f : Field} {x : DataW H}, Try.prog.underlying t = some (.struct fs) → M t (.agg ps) → fs[i]? = some f → ps[i]? = some x → M f.type x
theorem Meas.bulk (N : Nat) : Meas (H := H) N (fun _ d => Rows.uptoBulk d ≤ N) where
  len := fun _ _ h => Nat.le_trans (bulk_slice _ _).1 h
  el := fun _ h x hx => Nat.le_trans ((bulk_slice _ _).2 x hx) h
  fld := fun _ h _ hx => Nat.le_trans (by
    have := bulk_part (List.mem_of_getElem? hx)
    simp only [Rows.uptoBulk]
    omega) h
theorem weights_all {e : TypeId} {x : DataW H} : ∀ {el : List (DataW H)}, x ∈ el → ∀ n ∈ x.weights Try.prog e, n ∈ DataW.weightsAll Try.prog e el
  | [], h => by cases h
  | y :: r, h => fun n hn => by
    simp only [DataW.weightsAll, List.mem_append]
    rcases List.mem_cons.1 h with rfl | h
    · exact .inl hn
    · exact .inr (weights_all h n hn)
theorem Meas.weights (N : Nat) : Meas (H := H) N (fun t d => ∀ n ∈ d.weights Try.prog t, n ≤ N) where
  len := fun {t e el sp} ht hb h => by
    have h2 := h ((el.length + sp.length) * Try.prog.bytesOf e) (by simp [DataW.weights, ht])
    have h3 : el.length * 1 ≤ (el.length + sp.length) * Try.prog.bytesOf e := Nat.mul_le_mul (Nat.le_add_right _ _) hb
    omega
  el := fun {t e el sp} ht h x hx n hn => h n (by simp only [DataW.weights, ht, List.mem_cons, List.mem_append]; exact .inr (.inl (weights_all hx n hn)))
  fld := fun {t fs ps i f x} ht h hf hx n hn => h n (by
    simp only [DataW.weights, ht]
    exact DataW.weights_mem_each (j := i) (t := f.type) (d := x) (by rw [List.getElem?_map, Array.getElem?_toList, hf]; rfl) hx n hn)
variable {N : Nat} {M : TypeId → DataW H → Prop}
theorem open_readsM {α : Type} [Inhabited α] {en : α → List Value} {Q : α → Prop} {Me : DataW H → Prop} {t e : TypeId} {sz fuel : Nat} {a0 : Option Addr} {l0 c0 : Nat} {d : DataW H} {ps : List MemPlace} (ht : Try.prog.underlying t = some (.slice e)) (hsz : Try.prog.cellsOf e = sz) (hpos : 0 < sz)
    (hel : ∀ fuel cs x, DataW.trod enc Try.prog w base spare held fuel e cs = some x → Me x.1 → ∃ y : α, en y = cs ∧ Q y) (hme : ∀ el sp, d = .slice el sp → ∀ x ∈ el, Me x)
    (hf : DataW.trod enc Try.prog w base spare held fuel t [.slice a0 l0 c0] = some (d, ps)) :
    ∃ xs : List α, l0 = xs.length ∧ SlR w everyB sz en ⟨a0, l0, c0⟩ xs ∧ ∀ y ∈ xs, Q y := by
  rcases open_slice ht hf with ⟨hcs, _⟩ | ⟨a, len, cap, m, n, D, Pl, hcs, _, hl, hm, hmm, hx, hi⟩
  · simp at hcs
    obtain ⟨rfl, rfl, rfl⟩ := hcs
    exact ⟨[], rfl, SlR.nil_ _ _ _ _, by simp⟩
  · simp at hcs
    obtain ⟨rfl, rfl, rfl⟩ := hcs
    have hd : d = .slice ((List.range l0).map D) ((List.range (m - l0)).map fun j => D (l0 + j)) := congrArg Prod.fst hx
    have hlm : l0 ≤ m := by rw [hmm]; split <;> omega
    have key : ∀ i, i < l0 → ∃ y : α, Q y ∧ ∀ j u, (en y)[j]? = some u → w.cell? (a.add (i * sz + j)) = some u := fun i hil => by
      obtain ⟨cs', h1, h2⟩ := hi i (by omega)
      obtain ⟨y, rfl, hq⟩ := hel _ _ _ h2 (hme _ _ hd (D i) (List.mem_map_of_mem (List.mem_range.2 hil)))
      obtain ⟨_, hlen, hc⟩ := World.cells?_some h1
      refine ⟨y, hq, fun j u hj => ?_⟩
      have hjl : j < (en y).length := (List.getElem?_eq_some_iff.1 hj).1
      have := hc j (by omega)
      rw [Go.Deep.add_add, hj, hsz] at this
      exact this
    obtain ⟨f, hfn⟩ := choose_lt (α := α) (p := fun i y => Q y ∧ ∀ j u, (en y)[j]? = some u → w.cell? (a.add (i * sz + j)) = some u) key
    refine ⟨(List.range l0).map f, by simp, ⟨by simp, by simpa using hl, hm, (fun h => by cases h), fun hpos' => ?_, fun _ _ _ => trivial⟩, ?_⟩
    · have h0 : 0 < l0 := by simpa using hpos'
      obtain ⟨cs', h1, _⟩ := hi 0 (by omega)
      obtain ⟨_, hlen, hc⟩ := World.cells?_some h1
      have hc0 := hc 0 (by omega)
      rw [List.getElem?_eq_getElem (by omega)] at hc0
      obtain ⟨b, off, spot⟩ := a
      have hspot : spot = none := by simpa [Addr.add] using World.cell?_spot hc0
      subst hspot
      have hlt : b < w.heap.size := by
        rw [add_plain, add_plain] at hc0
        exact cell_lt hc0
      refine ⟨b, off, rfl, hlt, fun i x j u hi' hj => ?_⟩
      have hil : i < l0 := by
        have := (List.getElem?_eq_some_iff.1 hi').1
        simpa using this
      have hx : f i = x := by simpa [hil] using hi'
      have := (hfn i hil).2 j u (by rw [hx]; exact hj)
      rw [add_plain] at this
      rw [← this, Nat.add_assoc]
    · intro y hy
      obtain ⟨i, hi', rfl⟩ := List.mem_map.1 hy
      exact (hfn i (by simpa using hi')).1
theorem Meas.long (hM : Meas (H := H) N M) {t e : TypeId} {s : Sl} {fuel : Nat} {d : DataW H} {ps : List MemPlace} (ht : Try.prog.underlying t = some (.slice e)) (he : 0 < Try.prog.bytesOf e) (h : DataW.trod enc Try.prog w base spare held fuel t (slE s) = some (d, ps)) (hm : M t d) : s.n ≤ N := by
  have h1 := Go.Joins.sliceLen_trod ht (a := s.a) (len := s.n) (cap := s.c) h
  cases d with
  | slice el sp =>
    simp only [Go.Joins.sliceLen] at h1
    rw [← h1]
    exact hM.len ht he hm
  | _ =>
    simp only [Go.Joins.sliceLen] at h1
    rw [← h1]
    exact Nat.zero_le _
theorem Try.bytes_U8 : Try.prog.bytesOf 5 = 1 := by kernel_rfl
theorem openE_ByM (hM : Meas (H := H) N M) {fuel : Nat} {cs : List Value} {x : DataW H × List MemPlace} (h : DataW.trod enc Try.prog w base spare held fuel 35 cs = some x) (hm : M 35 x.1) : ∃ s : Sl, slE s = cs ∧ ∃ bs, By w everyB s bs ∧ bs.length ≤ N := by
  obtain ⟨s, e, bs, hb⟩ := openE_By h
  refine ⟨s, e, bs, hb, ?_⟩
  have h1 := hM.long (s := s) (ps := x.2) Try.underlying35 (by rw [Try.bytes_U8]; decide) (by rw [e]; exact h) hm
  have := hb.1.1
  omega
theorem openE_SeM (hM : Meas (H := H) N M) {fuel : Nat} {cs : List Value} {x : DataW H × List MemPlace} (h : DataW.trod enc Try.prog w base spare held fuel 22 cs = some x) (hm : M 22 x.1) : ∃ s : Sl, slE s = cs ∧ ∃ ss, Se w everyB s ss ∧ ss.length ≤ N ∧ ∀ b ∈ ss, b.length ≤ N := by
  obtain ⟨a, l, c, rfl⟩ := open_hdr Try.underlying22 h
  obtain ⟨d, ps⟩ := x
  obtain ⟨xs, hl, h1, h2⟩ := open_readsM (en := slE) (Q := fun y => ∃ bs, By w everyB y bs ∧ bs.length ≤ N) (Me := M 35) Try.underlying22 Try.cells_Sl (by omega) (fun _ _ _ h hm => openE_ByM hM h hm) (fun el sp e => hM.el (sp := sp) Try.underlying22 (by rw [← e]; exact hm)) h
  obtain ⟨ss, hsl, hr⟩ := choose_list (R := fun (s : Sl) bs => By w everyB s bs ∧ bs.length ≤ N) xs h2
  have hlong := hM.long (s := ⟨a, l, c⟩) (ps := ps) Try.underlying22 (by rw [Try.bytes_Sl]; decide) h hm
  simp only at hlong
  refine ⟨⟨a, l, c⟩, rfl, ss, ⟨xs, h1, hsl, fun i v bs hv hb => (hr i v bs hv hb).1⟩, by omega, fun b hb => ?_⟩
  obtain ⟨i, hi, rfl⟩ := List.getElem_of_mem hb
  exact (hr i _ _ (List.getElem?_eq_getElem (show i < xs.length by omega)) (List.getElem?_eq_getElem hi)).2
theorem openE_JlM (hM : Meas (H := H) N M) {fuel : Nat} {cs : List Value} {x : DataW H × List MemPlace} (h : DataW.trod enc Try.prog w base spare held fuel 29 cs = some x) (hm : M 29 x.1) : ∃ y : Sl × Jl, jlV y.1 y.2 = .agg ⟨cs⟩ ∧ Se w everyB y.1 y.2.recs ∧ y.2.recs.length ≤ N ∧ ∀ b ∈ y.2.recs, b.length ≤ N := by
  obtain ⟨xs, n, _, hx, hl, hxl, hf⟩ := DataW.trod_struct Try.underlying29 h
  rw [Try.cells_Jl] at hl
  obtain ⟨c0, c1, c2, rfl⟩ : ∃ c0 c1 c2, cs = [c0, c1, c2] := by
    match cs, hl with
    | [c0, c1, c2], _ => exact ⟨c0, c1, c2, rfl⟩
  have f0 := hf 0 _ rfl
  have f1 := hf 1 _ rfl
  have f2 := hf 2 _ rfl
  simp at hxl
  simp [Try.cells_Int, Try.cells_SS] at f0 f1 f2
  rw [List.getElem?_eq_getElem (by omega)] at f0 f1 f2
  have hm0 : M 22 (xs[0]'(by omega)).1 := hM.fld (i := 0) (x := (xs[0]'(by omega)).1) Try.underlying29 (by rw [hx] at hm; exact hm) rfl (by rw [List.getElem?_map, List.getElem?_eq_getElem (by omega)]; rfl)
  obtain ⟨sv, hs, ss, h0, hn1, hn2⟩ := openE_SeM hM f0 hm0
  obtain ⟨a, ha, _, wa⟩ := DataW.trod_int Try.underlying3 f1
  obtain ⟨b, hb, _, wb⟩ := DataW.trod_int Try.underlying3 f2
  simp [slE] at hs ha hb
  subst hs ha hb
  exact ⟨(sv, ⟨ss, a, b⟩), rfl, h0, hn1, hn2⟩
theorem openV_JqM (hM : Meas (H := H) N M) (hv : Value.okWide Try.prog w r b0 29 v) (h : DataW.Trod enc Try.prog w base spare held 29 v d p) (hm : M 29 d) : ∃ y : Sl × Jl, v = jlV y.1 y.2 ∧ Se w everyB y.1 y.2.recs ∧ y.2.recs.length ≤ N ∧ ∀ b ∈ y.2.recs, b.length ≤ N := by
  obtain ⟨cs, rfl, _⟩ := okWide_struct Try.underlying29 hv
  obtain ⟨fuel, hf⟩ := h
  obtain ⟨y, e, hd, hn⟩ := openE_JlM hM hf hm
  exact ⟨y, by rw [e]; rfl, hd, hn⟩
theorem openV_SqM (hM : Meas (H := H) N M) (hv : Value.okWide Try.prog w r b0 22 v) (h : DataW.Trod enc Try.prog w base spare held 22 v d p) (hm : M 22 d) : ∃ y : Sl × List (List Int), v = .slice y.1.a y.1.n y.1.c ∧ Se w everyB y.1 y.2 ∧ y.2.length ≤ N ∧ ∀ b ∈ y.2, b.length ≤ N := by
  obtain ⟨al, ll, cl, rfl⟩ := okWide_slice Try.underlying22 hv
  obtain ⟨fuel, hf⟩ := h
  obtain ⟨s, e, ss, hb, hn⟩ := openE_SeM hM hf hm
  have e2 : slE s = [.slice al ll cl] := by simpa [Value.cells] using e
  simp [slE] at e2
  exact ⟨(s, ss), by rw [e2.1, e2.2.1, e2.2.2], hb, hn⟩
theorem openV_BqM (hM : Meas (H := H) N M) (hv : Value.okWide Try.prog w r b0 35 v) (h : DataW.Trod enc Try.prog w base spare held 35 v d p) (hm : M 35 d) : ∃ y : Sl × List Int, v = .slice y.1.a y.1.n y.1.c ∧ By w everyB y.1 y.2 ∧ y.2.length ≤ N := by
  obtain ⟨al, ll, cl, rfl⟩ := okWide_slice Try.underlying35 hv
  obtain ⟨fuel, hf⟩ := h
  obtain ⟨s, e, bs, hb, hn⟩ := openE_ByM hM hf hm
  have e2 : slE s = [.slice al ll cl] := by simpa [Value.cells] using e
  simp [slE] at e2
  exact ⟨(s, bs), by rw [e2.1, e2.2.1, e2.2.2], hb, hn⟩
end
end Go.Proofs.Ytgbkhmoplocmkaa
