/- Read. -/
import Derived.Test.YtebbmplbpgilaaaDskG
namespace Go.Proofs.Ytebbmplbpgilaaa
open Go.RowKit Go.Shelf
set_option linter.unusedSimpArgs false
set_option linter.unusedVariables false
attribute [local go_sem] Oper.semAt_some

theorem lastW_none {x : Int} : ∀ {ps : List (Int × List Int)}, (∀ p ∈ ps, p.1 ≠ x) → lastW x ps = none
  | [], _ => rfl
  | p :: ps, h => by
    simp only [lastW]
    rw [lastW_none (fun q hq => h q (List.mem_cons_of_mem _ hq)), if_neg (h p (List.mem_cons_self ..))]
theorem lastW_at {x : Int} : ∀ {ps : List (Int × List Int)} {i : Nat} {p : Int × List Int}, ps[i]? = some p → p.1 = x → (∀ j q, i < j → ps[j]? = some q → q.1 ≠ x) → lastW x ps = some p.2
  | [], i, p, h, _, _ => by simp at h
  | q :: ps, 0, p, h, hp, hn => by
    simp at h
    subst h
    simp only [lastW]
    rw [lastW_none (fun r hr => by
      obtain ⟨j, hj⟩ := List.getElem?_of_mem hr
      exact hn (j + 1) r (by omega) (by simpa using hj)), if_pos hp]
  | q :: ps, i + 1, p, h, hp, hn => by
    simp only [lastW]
    rw [lastW_at (i := i) (by simpa using h) hp (fun j r hj hr => hn (j + 1) r (by omega) (by simpa using hr))]
section
variable {x : Int} {vs : List (Int × Sl)} {ps : List (Int × List Int)}
theorem bk_none (hl : vs.length = ps.length) (he : ∀ (i : Nat) (v : Int × Sl) (p : Int × List Int), vs[i]? = some v → ps[i]? = some p → v.1 = p.1) (h : ∀ y ∈ bk vs, y.2.1 ≠ x) : lastW x ps = none := by
  refine lastW_none (fun p hp => ?_)
  obtain ⟨i, hi⟩ := List.getElem?_of_mem hp
  have hil := (List.getElem?_eq_some_iff.1 hi).1
  have hv : vs[i]? = some (vs[i]'(by omega)) := List.getElem?_eq_getElem (by omega)
  rw [← he i _ p hv hi]
  exact h _ (List.mem_of_getElem? (bk_at vs (vs.length - 1 - i) i _ (by omega) (by omega) hv))
theorem bk_hit {pre t : List (Int × (Int × Sl))} {y : Int × (Int × Sl)} (hl : vs.length = ps.length) (he : ∀ (i : Nat) (v : Int × Sl) (p : Int × List Int), vs[i]? = some v → ps[i]? = some p → v.1 = p.1)
    (hb : pre ++ [y] ++ t = bk vs) (hn : ∀ z ∈ pre, z.2.1 ≠ x) (hy : y.2.1 = x) : ∃ (i : Nat) (p : Int × List Int), vs[i]? = some y.2 ∧ ps[i]? = some p ∧ lastW x ps = some p.2 := by
  have hlen : pre.length + 1 + t.length = vs.length := by
    have := congrArg List.length hb
    rw [bk_len] at this
    simp at this
    omega
  have hm : vs[vs.length - 1 - pre.length]? = some (vs[vs.length - 1 - pre.length]'(by omega)) := List.getElem?_eq_getElem (by omega)
  have h1 := bk_at vs pre.length (vs.length - 1 - pre.length) _ (by omega) rfl hm
  rw [← hb] at h1
  simp at h1
  have hy2 : vs[vs.length - 1 - pre.length]? = some y.2 := by rw [hm, h1]
  have hp : ps[vs.length - 1 - pre.length]? = some (ps[vs.length - 1 - pre.length]'(by omega)) := List.getElem?_eq_getElem (by omega)
  refine ⟨_, _, hy2, hp, lastW_at hp (by rw [← he _ _ _ hy2 hp]; exact hy) (fun j q hj hq => ?_)⟩
  have hjl := (List.getElem?_eq_some_iff.1 hq).1
  have hv : vs[j]? = some (vs[j]'(by omega)) := List.getElem?_eq_getElem (by omega)
  rw [← he j _ q hv hq]
  have h2 := bk_at vs (vs.length - 1 - j) j _ (by omega) (by omega) hv
  rw [← hb, List.append_assoc, List.getElem?_append_left (by omega)] at h2
  exact hn _ (List.mem_of_getElem? h2)
end

theorem zip_two (p q : Tmp) (a b : Value) (t : Array Value) : ((#[p, q] : Array Tmp).zip #[a, b]).foldl (fun t x => t.setIfInBounds x.1 x.2) t = (t.setIfInBounds p a).setIfInBounds q b := by simp
theorem addr_ne {b b' o o' : Nat} (h : b ≠ b' ∨ o ≠ o') : (⟨b, o, none⟩ : Addr) ≠ ⟨b', o', none⟩ := by
  intro e
  have h1 := congrArg Addr.block e
  have h2 := congrArg Addr.off e
  simp only at h1 h2
  omega
theorem set_at (W : World) (a : Addr) (v u : Value) (h : W.cell? a = some u) : (W.setCell a v).cell? a = some v := by
  rw [cell_set_if _ _ _ _ (by rw [h]; rfl), if_pos rfl]
theorem set_far (W : World) (a b : Addr) (v : Value) (h : a ≠ b) : (W.setCell a v).cell? b = W.cell? b := by
  first | exact World.cell?_setCell_other _ _ _ _ h | exact World.cell?_setCell_other _ _ _ _ h.symm

/-- the cells of the boxes at Read's start -/
structure ReadB (w : World) (V0 V1 V2 V3 X : Value) (W : World) : Prop where
  c0 : CellAt W w.heap.size 0 V0
  c1 : CellAt W w.heap.size 1 V1
  c2 : CellAt W w.heap.size 2 V2
  c3 : CellAt W w.heap.size 3 V3
  x : CellAt W (w.heap.size + 1) 0 X
  r : CellAt W (w.heap.size + 1 + 1) 0 (.slice none 0 0)
  e : CellAt W (w.heap.size + 1 + 1 + 1) 0 (.int .i64 0)
  fr : W.frozen? ⟨w.heap.size + 1 + 1, 0, none⟩ = false
  fe : W.frozen? ⟨w.heap.size + 1 + 1 + 1, 0, none⟩ = false
  z : w.heap.size + 1 + 1 + 1 + 1 ≤ W.heap.size
  b : Below w.heap.size w W
theorem ReadB.step {w W W' : World} {V0 V1 V2 V3 X : Value} (h : ReadB w V0 V1 V2 V3 X W) (hb : Below W.heap.size W W') : ReadB w V0 V1 V2 V3 X W' := by
  have h1 := h.z
  have h2 := hb.size
  exact ⟨h.c0.step hb, h.c1.step hb, h.c2.step hb, h.c3.step hb, h.x.step hb, h.r.step hb, h.e.step hb,
    (hb.frozen (p := ⟨w.heap.size + 1 + 1, 0, none⟩) (by show w.heap.size + 1 + 1 < _; omega)).trans h.fr, (hb.frozen (p := ⟨w.heap.size + 1 + 1 + 1, 0, none⟩) (by show w.heap.size + 1 + 1 + 1 < _; omega)).trans h.fe, by omega, h.b.trans (hb.mono h.b.size)⟩
theorem ReadB.start (w : World) (V0 V1 V2 V3 X : Value) (t1 t2 t3 t4 : TypeId) :
    ReadB w V0 V1 V2 V3 X ((((w.alloc (.cells #[V0, V1, V2, V3] t1)).alloc (.cells #[X] t2)).alloc (.cells #[.slice none 0 0] t3)).alloc (.cells #[.int .i64 0] t4)) := by
  refine ⟨⟨?_, ?_⟩, ⟨?_, ?_⟩, ⟨?_, ?_⟩, ⟨?_, ?_⟩, ⟨?_, ?_⟩, ⟨?_, ?_⟩, ⟨?_, ?_⟩, ?_, ?_, ?_, (((Below.refl _ _).alloc (Nat.le_refl _) _).alloc (by simp) _).alloc (by simp; omega) _ |>.alloc (by simp; omega) _⟩
  all_goals first | (simp [go_sem]; done) | (simp [go_sem]; omega)

theorem CellAt.kept {W W' : World} {b o : Nat} {v : Value} {row : Option Nat} (h : CellAt W b o v) (hg : W.grownBy W' row) (hr : ∀ k, row = some k → ∃ o, W.heap[k]? = some o ∧ o.isCells = false) : CellAt W' b o v :=
  ⟨cell_kept h.1 hg hr, Nat.lt_of_lt_of_le h.2 hg.size⟩
theorem ReadB.kept {w W W' : World} {V0 V1 V2 V3 X : Value} {row : Option Nat} (h : ReadB w V0 V1 V2 V3 X W) (hg : W.grownBy W' row) (hr : ∀ k, row = some k → ∃ o, W.heap[k]? = some o ∧ o.isCells = false) (hr2 : ∀ k, row = some k → w.heap.size ≤ k) : ReadB w V0 V1 V2 V3 X W' := by
  have h1 := h.z
  have h2 := hg.size
  exact ⟨h.c0.kept hg hr, h.c1.kept hg hr, h.c2.kept hg hr, h.c3.kept hg hr, h.x.kept hg hr, h.r.kept hg hr, h.e.kept hg hr,
    (frozen_kept h.r.1 hg hr).trans h.fr, (frozen_kept h.e.1 hg hr).trans h.fe, by omega, h.b.grown hg h.b.size hr2⟩
/-- between two rounds -/
def ReadI (w : World) (V0 V1 V2 V3 : Value) (x : Int) (pre : List (Int × (Int × Sl))) (W : World) : Prop :=
  ReadB w V0 V1 V2 V3 (.int .i64 x) W ∧ ∀ y ∈ pre, y.2.1 ≠ x
/-- behind a round that has returned -/
def ReadX (w : World) (P : Nat → Prop) (E : List Int) (c : Code) (W : World) : Prop :=
  c = .ret ∧ ∃ v : Sl, CellAt W (w.heap.size + 1 + 1) 0 (.slice v.a v.n v.c) ∧ CellAt W (w.heap.size + 1 + 1 + 1) 0 (.int .i64 0) ∧ By w P v E ∧ Below w.heap.size w W

set_option maxRecDepth 100000 in
set_option maxHeartbeats 4000000 in
theorem Read_any {P : Nat → Prop} (d : Dk) (sv pv : Sl) (x : Int) (w : World) (h : Di w P sv pv d) :
    Calls Try.prog 21 #[dkV sv pv d, .int .i64 x] w fun e w' => (∃ v : Sl, e = .returned (.tuple #[.slice v.a v.n v.c, .int .i64 (readD d x).2]) ∧ By w' P v (readD d x).1) ∧ Below w.heap.size w w' := by
  have hs := h.1.len
  have hp := h.2.len
  have HD := Lib.hid h
  clear h
  have RC := Lib.hid (fun W (hW : Below w.heap.size w W) => runs_any d sv pv W (HD.out.step hW))
  have HC := Lib.hid (fun W => has_any d sv pv x W hs)
  obtain ⟨A, n, c⟩ := sv
  obtain ⟨D, m, c2⟩ := pv
  simp only at hs hp
  subst hs hp
  unfold dkV at RC HC ⊢
  simp only at RC HC ⊢
  obtain ⟨st, hst⟩ : ∃ st, st = d.stopped := ⟨_, rfl⟩
  obtain ⟨lf, hlf⟩ : ∃ lf, lf = d.left := ⟨_, rfl⟩
  rw [← hst, ← hlf] at RC HC ⊢
  clear hst hlf
  obtain ⟨W0, hW0⟩ : ∃ W0, ((((w.alloc (.cells #[.slice A d.secs.length c, .slice D d.pend.length c2, .int .i64 lf, .bool st] 25)).alloc (.cells #[.int .i64 x] 3)).alloc (.cells #[.slice none 0 0] 35)).alloc (.cells #[.int .i64 0] 28)) = W0 := ⟨_, rfl⟩
  have hB0 : ReadB w (.slice A d.secs.length c) (.slice D d.pend.length c2) (.int .i64 lf) (.bool st) (.int .i64 x) W0 := by rw [← hW0]; exact ReadB.start ..
  have HB0 := Lib.hid hB0
  have HW0 := Lib.hid hW0
  clear hB0 hW0
  cases hr : runsD d
  · rw [readD_no (.inl hr)]
    have HR := Lib.hid hr
    clear hr
    go_enter Try.func21, Try.ntmps21
    go_wp2_with fail
    rw [HW0.out]
    refine (RC.out _ HB0.out.b).mono ?_
    rw [HR.out]
    rintro e w1 ⟨rfl, hb1⟩
    obtain ⟨⟨q0, _⟩, ⟨q1, _⟩, ⟨q2, _⟩, ⟨q3, _⟩, ⟨qx, _⟩, ⟨qr, _⟩, ⟨qe, _⟩, fr, fe, hz, G0⟩ := HB0.out.step hb1
    go_wp2_with fail
    exact bodyPost_ret (v := .tuple #[.slice none 0 0, .int .i64 450]) (by simp [results, Try.results21, go_sem, qr, qe]) rfl ⟨⟨⟨none, 0, 0⟩, rfl, By.nil_ _ _⟩, (G0.setCell (by simp; omega) _).setCell (by simp; omega) _⟩
  · have HR := Lib.hid hr
    cases hh : hasD d x
    · rw [readD_no (.inr hh)]
      have HH := Lib.hid hh
      clear hr hh
      go_enter Try.func21, Try.ntmps21
      go_wp2_with fail
      rw [HW0.out]
      refine (RC.out _ HB0.out.b).mono ?_
      rw [HR.out]
      rintro e w1 ⟨rfl, hb1⟩
      have HB1 := Lib.hid (HB0.out.step hb1)
      obtain ⟨⟨q0, _⟩, ⟨q1, _⟩, ⟨q2, _⟩, ⟨q3, _⟩, ⟨qx, _⟩, ⟨qr, _⟩, ⟨qe, _⟩, fr, fe, hz, G0⟩ := HB1.out
      go_wp2_with fail
      refine (HC.out w1).mono ?_
      rw [HH.out]
      rintro e w2 ⟨rfl, hb2⟩
      clear hb1 q0 q1 q2 q3 qx qr qe fr fe hz G0
      obtain ⟨⟨q0, _⟩, ⟨q1, _⟩, ⟨q2, _⟩, ⟨q3, _⟩, ⟨qx, _⟩, ⟨qr, _⟩, ⟨qe, _⟩, fr, fe, hz, G0⟩ := HB1.out.step hb2
      go_wp2_with fail
      exact bodyPost_ret (v := .tuple #[.slice none 0 0, .int .i64 450]) (by simp [results, Try.results21, go_sem, qr, qe]) rfl ⟨⟨⟨none, 0, 0⟩, rfl, By.nil_ _ _⟩, (G0.setCell (by simp; omega) _).setCell (by simp; omega) _⟩
    · obtain ⟨i, rfl⟩ : ∃ i : Nat, x = (i : Int) := ⟨x.toNat, by simp [hasD] at hh; omega⟩
      have hi : i < d.secs.length := by simp [hasD] at hh; omega
      rw [readD_yes hr hh]
      obtain ⟨E, hE⟩ : ∃ E, E = sectorD d i := ⟨_, rfl⟩
      rw [← hE]
      have HE := Lib.hid hE
      have HH := Lib.hid hh
      have HRD := Lib.hid hr
      clear hE hh hr
      have hi0 : (0 : Int) ≤ (i : Int) := by omega
      refine (callsIn_wide (n := 6)).1 ?_
      refine callsIn_of_wp_marks Try.func21 rfl trivial ?_ rfl
      simp only [Try.ntmps21, List.size_toArray, List.length_cons, List.length_nil, Nat.reduceAdd, Nat.reduceSub, Array.replicate_succ, Array.replicate_zero, List.push_toArray, List.append_toArray, List.nil_append, List.cons_append]
      refine wpIn_wide.2 ?_
      go_wp2_with fail
      rw [HW0.out]
      refine (RC.out _ HB0.out.b).mono ?_
      rw [HR.out]
      rintro e w1 ⟨rfl, hb1⟩
      have HB1 := Lib.hid (HB0.out.step hb1)
      obtain ⟨⟨q0, _⟩, ⟨q1, _⟩, ⟨q2, _⟩, ⟨q3, _⟩, ⟨qx, _⟩, ⟨qr, _⟩, ⟨qe, _⟩, fr, fe, hz, G0⟩ := HB1.out
      go_wp2_with fail
      refine (HC.out w1).mono ?_
      rw [HH.out]
      rintro e w2 ⟨rfl, hb2⟩
      have HB2 := Lib.hid (HB1.out.step hb2)
      clear hb1 q0 q1 q2 q3 qx qr qe fr fe hz G0
      obtain ⟨⟨q0, _⟩, ⟨q1, _⟩, ⟨q2, _⟩, ⟨q3, _⟩, ⟨qx, _⟩, ⟨qr, _⟩, ⟨qe, _⟩, fr, fe, hz, G0⟩ := HB2.out
      go_wp2_with fail
      refine (backward_any _ _ _ _).mono ?_
      rintro e w3 ⟨rfl, hw3⟩
      have HB3 := Lib.hid (HB2.out.step (by rw [hw3]; exact (Below.refl _ _).alloc (Nat.le_refl _) _ : Below w2.heap.size w2 w3))
      have hz2 := HB2.out.z
      have c3 : w3.cell? ⟨w2.heap.size, 0, none⟩ = some (.slice D d.pend.length c2) := by rw [hw3]; simp [go_sem]
      have z3 : w3.heap.size = w2.heap.size + 1 := by rw [hw3]; simp
      go_wp2_with fail
      refine (wpIn_wide (n := 5)).1 ?_
      rw [← hw3]
      obtain ⟨vs, hvs, hvl, hvb⟩ := HD.out.2
      have HVB := Lib.hid hvb
      have HVS := Lib.hid hvs
      have HVL := Lib.hid hvl
      clear hvb hvs hvl hw3
      refine wpIn_seq (α := Int × (Int × Sl)) rfl (by decide) (gf := 45) (lb := #[.pointer (some ⟨w2.heap.size, 0, none⟩)]) rfl trivial (enters_of Try.func45 (by kernel_rfl) rfl)
        (own := fun _ => False) (free := fun _ => False) (fun _ h => h.elim)
        (backward_iter w3 4 w.heap.size w2.heap.size (by omega) vs (HVS.out.le) (fun _ => False) (fun b h => h.elim) (by omega) D c2 (by rw [HVL.out]; exact c3) (HVS.out.reads.below HB3.out.b) (by omega))
        (fun _ => rfl) (ReadI w (.slice A d.secs.length c) (.slice D d.pend.length c2) (.int .i64 lf) (.bool st) i) (fun cc _ => ReadX w P E cc) ?own ?ownx (fun _ _ _ _ _ h => h.elim) (fun _ _ _ _ _ _ h => h.elim) ⟨HB3.out, by simp⟩
        (fun y a' W => ∃ b, w.heap.size ≤ b ∧ CellAt W b 0 (.int .i64 y.2.1) ∧ CellAt W b 1 (.slice y.2.2.a y.2.2.n y.2.2.c) ∧ a' = { tmps := #[.agg #[.slice A d.secs.length c, .slice D d.pend.length c2, .int .i64 lf, .bool st], .int .i64 i, .pointer (some ⟨w.heap.size, 0, none⟩), .pointer (some ⟨w.heap.size + 1, 0, none⟩), .pointer (some ⟨w.heap.size + 1 + 1, 0, none⟩), .pointer (some ⟨w.heap.size + 1 + 1 + 1, 0, none⟩), undef, .pointer (some ⟨b, 0, none⟩),
          .agg #[.slice A d.secs.length c, .slice D d.pend.length c2, .int .i64 lf, .bool st], .bool true, .bool false, .bool false, .agg #[.slice A d.secs.length c, .slice D d.pend.length c2, .int .i64 lf, .bool st], .int .i64 i, .bool true, .bool false, .bool false, .pointer (some ⟨w.heap.size, 1, none⟩), .slice D d.pend.length c2,
          .func (.func 45) #[] #[.pointer (some ⟨w2.heap.size, 0, none⟩)], .int .i64 y.1, .agg #[.int .i64 y.2.1, .slice y.2.2.a y.2.2.n y.2.2.c], undef, undef, undef, undef, undef, undef, undef, undef, undef, undef, undef], defers := [] }) ?Ax ?assign ?body ?done ?stop
      case own =>
        rintro pre W W' row ⟨h1, h2⟩ hg hr
        exact ⟨h1.kept hg (fun r e => (hr r e).2) (fun r e => by have := (hr r e).1; omega), h2⟩
      case ownx =>
        rintro cc pre W W' row ⟨h0, v, h1, h2, h3, h4⟩ hg hr
        exact ⟨h0, v, h1.kept hg (fun r e => (hr r e).2), h2.kept hg (fun r e => (hr r e).2), h3, h4.grown hg h4.size (fun k e => by have := (hr k e).1; omega)⟩
      case Ax =>
        rintro y a' W L o o' ⟨b, h0, h1, h2, h3⟩ hL ho
        exact ⟨b, h0, h1.kept (grownBy_putObj' _ L o') (fun r e => by cases e; exact ⟨_, hL, ho⟩), h2.kept (grownBy_putObj' _ L o') (fun r e => by cases e; exact ⟨_, hL, ho⟩), h3⟩
      case assign =>
        intro l pre y W K hi hpr hz' hK
        rw [zip_two]
        gi_wp2
        exact hK _ _ (KeepsOthers.alloc _ _) ((Below.refl _ _).alloc (Nat.le_refl _) _) ⟨W.heap.size, by omega, by have := cell_here W #[.int .i64 y.2.1, .slice y.2.2.a y.2.2.n y.2.2.c] 54 0 _ rfl; simpa using this, by have := cell_here W #[.int .i64 y.2.1, .slice y.2.2.a y.2.2.n y.2.2.c] 54 1 _ rfl; simpa using this, rfl⟩
      case body =>
        rintro l pre y a' W ⟨hRB, hno⟩ hpr hz' ⟨b, hb0, ⟨y0, hbz⟩, ⟨y1, _⟩, rfl⟩
        have HRB := Lib.hid hRB
        have HNO := Lib.hid hno
        have HPR := Lib.hid hpr
        clear hno hpr
        obtain ⟨_, _, _, _, ⟨qx', qxz⟩, ⟨qr', qrz⟩, ⟨qe', qez⟩, fr', fe', hzW, G'⟩ := hRB
        by_cases hy : y.2.1 = (i : Int)
        · have e1 : (y.2.1 == (i : Int)) = true := by simpa using hy
          have HY := Lib.hid hy
          clear hy
          dsimp only
          gi_wp2
          obtain ⟨t, ht⟩ := HPR.out
          obtain ⟨i2, p2, hv2, hp2, hlw⟩ := bk_hit (ps := d.pend) HVL.out (fun i v p a b => (HVB.out i v p a b).1) ht HNO.out HY.out
          refine ⟨(KeepsOthers.setCell _ _ _).trans (KeepsOthers.setCell _ _ _), rfl, y.2.2, ⟨?_, by simp; omega⟩, ⟨?_, by simp; omega⟩, ?_, (G'.setCell (by simp; omega) _).setCell (by simp; omega) _⟩
          · rw [set_far _ _ _ _ (addr_ne (by omega))]; exact set_at _ _ _ _ qr'
          · exact set_at _ _ _ _ ((set_far _ _ _ _ (addr_ne (by omega))).trans qe')
          · rw [HE.out, sectorD, hlw]; exact (HVB.out i2 y.2 p2 hv2 hp2).2
        · have e1 : (y.2.1 == (i : Int)) = false := by simpa using hy
          have HY := Lib.hid hy
          clear hy
          dsimp only
          gi_wp2
          refine ⟨KeepsOthers.refl _, Keep.refl _ _ _, HRB.out, fun z hz => ?_⟩
          rcases List.mem_append.1 hz with h | h
          · exact HNO.out z h
          · obtain rfl := List.mem_singleton.1 h
            exact HY.out
      case done =>
        rintro D' xs W hD rfl ⟨hRB, hno⟩ hK
        have HK := Lib.hid hK
        have hlw := bk_none (ps := d.pend) (x := i) HVL.out (fun i v p a b => (HVB.out i v p a b).1) hno
        have HLW := Lib.hid hlw
        have hDl : D' < W.heap.size := (Array.getElem?_eq_some_iff.1 hK).1
        clear hlw hno hK
        have HRB := Lib.hid hRB
        obtain ⟨⟨q0', _⟩, _, _, _, ⟨qx', _⟩, ⟨qr', _⟩, ⟨qe', _⟩, fr', fe', hzW, G'⟩ := hRB
        obtain ⟨bb, off, v0, x0, ha, hbl, hxk, hby, z0⟩ := (HD.out.step G').1.at_ hi
        simp only at ha
        subst ha
        have HXK := Lib.hid hxk
        obtain ⟨bb0, off0, v00, x00, ha0, _, hxk0, hby0, z00⟩ := HD.out.1.at_ hi
        simp only [Option.some.injEq, Addr.mk.injEq] at ha0
        obtain ⟨rfl, rfl, _⟩ := ha0
        have hbw : bb < w.heap.size := by assumption
        have z01 := (G'.cell (p := ⟨bb, off + i, none⟩) hbw).trans z00
        rw [z0] at z01
        simp only [Option.some.injEq, Value.slice.injEq] at z01
        obtain ⟨a1, a2, a3⟩ := z01
        have HV : Hid (By w P v0 E) := Lib.hid (by
          obtain ⟨a0', n0', c0'⟩ := v0
          simp only at a1 a2 a3
          subst a1 a2 a3
          rw [HE.out, sectorD, HLW.out, List.getD_eq_getElem?_getD, Int.toNat_natCast, hxk0]
          exact hby0)
        clear hxk hby hxk0 hby0 z00 a1 a2 a3
        gi_wp2
        go_wp2_with fail
        obtain ⟨W5, hW5⟩ : ∃ W5, W5 = (W.setCell ⟨w.heap.size + 1 + 1, 0, none⟩ (.slice v0.a v0.n v0.c)).setCell ⟨w.heap.size + 1 + 1 + 1, 0, none⟩ (.int .i64 0) := ⟨_, rfl⟩
        have p1 : W5.cell? ⟨w.heap.size + 1 + 1, 0, none⟩ = some (.slice v0.a v0.n v0.c) := by
          rw [hW5, set_far _ _ _ _ (addr_ne (by omega))]; exact set_at _ _ _ _ qr'
        have p2 : W5.cell? ⟨w.heap.size + 1 + 1 + 1, 0, none⟩ = some (.int .i64 0) := by
          rw [hW5]; exact set_at _ _ _ _ ((set_far _ _ _ _ (addr_ne (by omega))).trans qe')
        have hK5 : W5.heap[D']? = some (.deferred (some [])) := by
          rw [hW5]; exact ((KeepsOthers.setCell W ⟨w.heap.size + 1 + 1, 0, none⟩ (.slice v0.a v0.n v0.c)).trans (KeepsOthers.setCell _ ⟨w.heap.size + 1 + 1 + 1, 0, none⟩ (.int .i64 0))).same D' _ HK.out rfl
        have hB5 : Below w.heap.size w W5 := by rw [hW5]; exact (G'.setCell (by simp; omega) _).setCell (by simp; omega) _
        rw [← hW5]
        clear hW5
        have q1' := cell_kept p1 (grownBy_putObj' _ D' (.deferred none)) (fun r e => by cases e; exact ⟨_, hK5, rfl⟩)
        have q2' := cell_kept p2 (grownBy_putObj' _ D' (.deferred none)) (fun r e => by cases e; exact ⟨_, hK5, rfl⟩)
        have hB := hB5.grown (grownBy_putObj' _ D' (.deferred none)) hB5.size (fun k e => by cases e; omega)
        refine ⟨by simp, .inl ⟨_, _, rfl, run_takeDeferred hK5, ?_⟩⟩
        exact ⟨.tuple #[.slice v0.a v0.n v0.c, .int .i64 0], by simp [results, Try.results21, go_sem, q1', q2'], ⟨v0, rfl, HV.out.step hB⟩, hB⟩
      case stop =>
        rintro D' cc pre W hD _ ⟨rfl, v, h1, h2, h3, h4⟩ hK
        have HK := Lib.hid hK
        clear hK
        gi_wp2
        have hK' := HK.out
        refine ⟨by simp, .inl ⟨_, _, rfl, run_takeDeferred hK', ?_⟩⟩
        have p1 := h1.kept (grownBy_putObj' _ D' (.deferred none)) (fun r e => by cases e; exact ⟨_, hK', rfl⟩)
        have p2 := h2.kept (grownBy_putObj' _ D' (.deferred none)) (fun r e => by cases e; exact ⟨_, hK', rfl⟩)
        have hB := h4.grown (grownBy_putObj' _ D' (.deferred none)) h4.size (fun k e => by cases e; omega)
        exact ⟨.tuple #[.slice v.a v.n v.c, .int .i64 0], by simp [results, Try.results21, go_sem, p1.1, p2.1], ⟨v, rfl, h3.step hB⟩, hB⟩
end Go.Proofs.Ytebbmplbpgilaaa
