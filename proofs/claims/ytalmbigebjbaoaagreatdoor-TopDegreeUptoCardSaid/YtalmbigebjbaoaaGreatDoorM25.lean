/- TopDegree, what its proof leans on: the texts TopB, TopC. -/
import Derived.Test.YtalmbigebjbaoaaGreatDoorM24
import Derived.Test.YtalmbigebjbaoaaGreatDoorM19
import Derived.Test.YtalmbigebjbaoaaGreatDoorM06
import Derived.Test.YtalmbigebjbaoaaGreatDoorM04
namespace Go.Proofs.YtalmbigebjbaoaaGreatDoor
open Go.RowKit Go.Shelf
set_option linter.unusedSimpArgs false
set_option linter.unusedVariables false
attribute [local go_sem] Oper.semAt_some
def bestStep (term : Int) (b : Option Fc) (f : Fc) : Option Fc :=
 if decide (f.frm ≤ term) && decide (term < f.till) then (match b with | none => some f | some g => if 0 ≤ cmpF f g then some f else some g) else b
def bestF (term : Int) (fs : List Fc) : Option Fc := fs.foldl (bestStep term) none
def atO : Option Fc → Int × Bool
 | none => (0, false)
 | some f => if f.val < 0 then (0, false) else (f.val, true)
def atF (xs : List Fc) (k : Ky) (term known : Int) : Int × Bool := atO (bestF term (xs.filter (ofP k known)))
theorem bestF_snoc (term : Int) (fs : List Fc) (x : Fc) : bestF term (fs ++ [x]) = bestStep term (bestF term fs) x := by
 unfold bestF
 rw [List.foldl_append]
 rfl
def Fc.cells (f : Fc) : Array Value := #[.int .i64 f.kind, .int .i64 f.subj, .int .i64 f.obj, .int .i64 f.val, .int .i64 f.frm, .int .i64 f.till, .int .i64 f.known, .int .i64 f.no]
def optF (b : Option Fc) : Fc := b.getD ⟨0, 0, 0, 0, 0, 0, 0, 0⟩
structure AtI (w : World) (term : Int) (fs : List Fc) (W : World) : Prop where
 tm : W.heap[w.heap.size + 1]? = some (.cells #[.int .i64 term] 3 (0, 0))
 be : W.heap[w.heap.size + 2]? = some (.cells (optF (bestF term fs)).cells 183 (0, 0))
 so : W.heap[w.heap.size + 3]? = some (.cells #[.bool (bestF term fs).isSome] 4 (0, 0))
 bw : Below w.heap.size w W
theorem AtI.own {w : World} {term : Int} {B : Nat} (hB : w.heap.size + 4 ≤ B) : OwnFrom B (AtI w term) := fun pre W W' row h hg hr => by
 obtain ⟨h1, h2, h3, h4⟩ := h
 have k : ∀ b, b < w.heap.size + 4 → b < W.heap.size → W'.heap[b]? = W.heap[b]? := fun b hb hl => hg.block b hl (fun e => by have := (hr b e.symm).1; omega)
 have z : ∀ {b o}, W.heap[b]? = some o → b < W.heap.size := fun h => (Array.getElem?_eq_some_iff.1 h).1
 exact ⟨(k _ (by omega) (z h1)).trans h1, (k _ (by omega) (z h2)).trans h2, (k _ (by omega) (z h3)).trans h3, h4.grown hg h4.size (fun q e => by have := (hr q e).1; omega)⟩
structure F8 (W : World) (b : Nat) (f : Fc) : Prop where
 c0 : W.cell? ⟨b, 0, none⟩ = some (.int .i64 f.kind)
 c1 : W.cell? ⟨b, 1, none⟩ = some (.int .i64 f.subj)
 c2 : W.cell? ⟨b, 2, none⟩ = some (.int .i64 f.obj)
 c3 : W.cell? ⟨b, 3, none⟩ = some (.int .i64 f.val)
 c4 : W.cell? ⟨b, 4, none⟩ = some (.int .i64 f.frm)
 c5 : W.cell? ⟨b, 5, none⟩ = some (.int .i64 f.till)
 c6 : W.cell? ⟨b, 6, none⟩ = some (.int .i64 f.known)
 c7 : W.cell? ⟨b, 7, none⟩ = some (.int .i64 f.no)
 f0 : W.frozen? ⟨b, 0, none⟩ = false
 f1 : W.frozen? ⟨b, 1, none⟩ = false
 f2 : W.frozen? ⟨b, 2, none⟩ = false
 f3 : W.frozen? ⟨b, 3, none⟩ = false
 f4 : W.frozen? ⟨b, 4, none⟩ = false
 f5 : W.frozen? ⟨b, 5, none⟩ = false
 f6 : W.frozen? ⟨b, 6, none⟩ = false
 f7 : W.frozen? ⟨b, 7, none⟩ = false
 z : b < W.heap.size
theorem F8.of {W : World} {b : Nat} {f : Fc} {T : TypeId} (h : W.heap[b]? = some (.cells f.cells T (0, 0))) : F8 W b f := by
 have hz := (Array.getElem?_eq_some_iff.1 h).1
 refine ⟨?_, ?_, ?_, ?_, ?_, ?_, ?_, ?_, ?_, ?_, ?_, ?_, ?_, ?_, ?_, ?_, hz⟩ <;> simp [World.cell?, World.frozen?, h, Fc.cells]
def put8 (W : World) (b : Nat) (x : Fc) : World := ((((((((W.setCell ⟨b, 0, none⟩ (.int .i64 x.kind)).setCell ⟨b, 1, none⟩ (.int .i64 x.subj)).setCell ⟨b, 2, none⟩ (.int .i64 x.obj)).setCell ⟨b, 3, none⟩ (.int .i64 x.val)).setCell ⟨b, 4, none⟩ (.int .i64 x.frm)).setCell ⟨b, 5, none⟩ (.int .i64 x.till)).setCell ⟨b, 6, none⟩ (.int .i64 x.known)).setCell ⟨b, 7, none⟩ (.int .i64 x.no))
theorem put8_at {W : World} {b : Nat} {f : Fc} {T : TypeId} (x : Fc) (h : W.heap[b]? = some (.cells f.cells T (0, 0))) : (put8 W b x).heap[b]? = some (.cells x.cells T (0, 0)) := by
 simp [put8, World.setCell, Array.getElem?_modify, h, Fc.cells]
theorem put8_far {W : World} {b b' : Nat} (x : Fc) (h : b' ≠ b) : (put8 W b x).heap[b']? = W.heap[b']? := by
 unfold put8
 repeat rw [Below.heap_setCell _ _ _ _ (by first | exact h | exact h.symm)]
theorem put8_below {W w : World} {B b : Nat} (x : Fc) (h : Below B w W) (hb : B ≤ b) : Below B w (put8 W b x) :=
 (((((((h.setCell (p := ⟨b, 0, none⟩) hb _).setCell (p := ⟨b, 1, none⟩) hb _).setCell (p := ⟨b, 2, none⟩) hb _).setCell (p := ⟨b, 3, none⟩) hb _).setCell (p := ⟨b, 4, none⟩) hb _).setCell (p := ⟨b, 5, none⟩) hb _).setCell (p := ⟨b, 6, none⟩) hb _).setCell (p := ⟨b, 7, none⟩) hb _
theorem put8_keeps (W : World) (b : Nat) (x : Fc) : KeepsOthers W (put8 W b x) :=
 (((((((KeepsOthers.setCell _ _ _).trans (KeepsOthers.setCell _ _ _)).trans (KeepsOthers.setCell _ _ _)).trans (KeepsOthers.setCell _ _ _)).trans (KeepsOthers.setCell _ _ _)).trans (KeepsOthers.setCell _ _ _)).trans (KeepsOthers.setCell _ _ _)).trans (KeepsOthers.setCell _ _ _)
theorem put8_keep2 {B : Nat} {free : Nat → Prop} {X W : World} {b : Nat} (x : Fc) (h : Keep2 B free X W) (hb : free b) : Keep2 B free X (put8 W b x) :=
 (((((((h.setCell (a := ⟨b, 0, none⟩) hb _).setCell (a := ⟨b, 1, none⟩) hb _).setCell (a := ⟨b, 2, none⟩) hb _).setCell (a := ⟨b, 3, none⟩) hb _).setCell (a := ⟨b, 4, none⟩) hb _).setCell (a := ⟨b, 5, none⟩) hb _).setCell (a := ⟨b, 6, none⟩) hb _).setCell (a := ⟨b, 7, none⟩) hb _
theorem undef_bool (b : Bool) : some undef = some (Value.bool b) → False := by intro h; cases h
theorem one_cell {W : World} {b : Nat} {v : Value} {T : TypeId} (h : W.heap[b]? = some (.cells #[v] T (0, 0))) : W.cell? ⟨b, 0, none⟩ = some v ∧ W.frozen? ⟨b, 0, none⟩ = false ∧ b < W.heap.size :=
 ⟨by simp [World.cell?, h], by simp [World.frozen?, h], (Array.getElem?_eq_some_iff.1 h).1⟩
theorem AtI.same {w W : World} {term : Int} {pre : List Fc} {x : Fc} (h : AtI w term pre W) (he : bestF term (pre ++ [x]) = bestF term pre) : AtI w term (pre ++ [x]) W := ⟨h.tm, by rw [he]; exact h.be, by rw [he]; exact h.so, h.bw⟩
theorem AtI.step {w W W' : World} {term : Int} {pre : List Fc} (h : AtI w term pre W) (hb : Below W.heap.size W W') : AtI w term pre W' :=
 have z : ∀ {b o}, W.heap[b]? = some o → W'.heap[b]? = some o := fun h => (hb.block _ (Array.getElem?_eq_some_iff.1 h).1).trans h
 ⟨z h.tm, z h.be, z h.so, h.bw.trans (hb.mono h.bw.size)⟩
theorem AtI.put {w W : World} {term : Int} {pre : List Fc} {x : Fc} (h : AtI w term pre W) (he : bestF term (pre ++ [x]) = some x) : AtI w term (pre ++ [x]) ((put8 W (w.heap.size + 2) x).setCell ⟨w.heap.size + 3, 0, none⟩ (.bool true)) := by
 refine ⟨?_, ?_, ?_, (put8_below x h.bw (by omega)).setCell (p := ⟨w.heap.size + 3, 0, none⟩) (by show w.heap.size ≤ w.heap.size + 3; omega) _⟩
 ·rw [Below.heap_setCell _ _ _ _ (by simp), put8_far x (by omega)]
  exact h.tm
 ·rw [Below.heap_setCell _ _ _ _ (by simp), he]
  exact put8_at x h.be
 ·have h3 := h.so
  have h4 := (put8_far (W := W) (b := w.heap.size + 2) (b' := w.heap.size + 3) x (by omega)).trans h3
  rw [he]
  simp [World.setCell, Array.getElem?_modify, h4]
set_option maxRecDepth 100000 in
set_option maxHeartbeats 8000000 in
theorem At_any (xs : List Fc) (A : Option Addr) (c : Nat) (k : Ky) (term known : Int) (w : World) (hx : Reads w w.heap.size A 8 Fc.enc xs) (hl : xs.length ≤ 100000) :
 Calls Tryz.prog 53 #[.slice A xs.length c, k.v, .int .i64 term, .int .i64 known] w fun e w' => e = .returned (.tuple #[.int .i64 (atF xs k term known).1, .bool (atF xs k term known).2]) ∧ Below w.heap.size w w' := by
 have HX := Lib.hid hx
 clear hx
 obtain ⟨k0, k1, k2⟩ := k
 unfold Ky.v
 simp only
 refine (callsIn_wide (n := 6)).1 ?_
 refine callsIn_of_wp_marks Tryz.func53 rfl trivial ?_ rfl
 simp only [Tryz.ntmps53, List.size_toArray, List.length_cons, List.length_nil, Nat.reduceAdd, Nat.reduceSub, Array.replicate_succ, Array.replicate_zero, List.push_toArray, List.append_toArray, List.nil_append, List.cons_append]
 refine wpIn_wide.2 ?_
 go_wp2_with fail
 refine (of_any A xs.length c ⟨k0, k1, k2⟩ known _).mono ?_
 rintro e w3 ⟨rfl, hw3⟩
 go_wp2_with fail
 refine (wpIn_wide (n := 5)).1 ?_
 refine abs_world ?_
 intro W3 hW3
 have HB : Hid (Below w.heap.size w W3 ∧ W3.heap.size = w.heap.size + 7) := Lib.hid (by
  rw [hW3]
  exact ⟨(((((((Below.refl _ w).alloc (Nat.le_refl _) _).alloc (by simp) _).alloc (by simp <;> omega) _).alloc (by simp <;> omega) _).alloc (by simp <;> omega) _).alloc (by simp <;> omega) _).alloc (by simp <;> omega) _, by simp⟩)
 have HC : Hid (W3.cell? ⟨w.heap.size + 4, 0, none⟩ = some (.slice A xs.length c) ∧ W3.cell? ⟨w.heap.size + 5, 0, none⟩ = some (.int .i64 k0) ∧ W3.cell? ⟨w.heap.size + 5, 1, none⟩ = some (.int .i64 k1) ∧ W3.cell? ⟨w.heap.size + 5, 2, none⟩ = some (.int .i64 k2) ∧ W3.cell? ⟨w.heap.size + 6, 0, none⟩ = some (.int .i64 known)) := Lib.hid (by
  rw [hW3]
  refine ⟨?_, ?_, ?_, ?_, ?_⟩ <;> simp [go_sem])
 have HI : Hid (AtI w term [] W3) := Lib.hid (by
  have o : ∀ {W : World} {b : Nat} {q r : Obj}, W.heap[b]? = some q → (W.alloc r).heap[b]? = some q := fun {W b q r} h => (Below.heap_alloc _ _ _ (Array.getElem?_eq_some_iff.1 h).1).trans h
  have e : ∀ (W : World) (q : Obj) (b : Nat), b = W.heap.size → (W.alloc q).heap[b]? = some q := fun W q b h => by subst h; exact World.alloc_heap_new _ _
  refine ⟨?_, ?_, ?_, HB.out.1⟩ <;> rw [hW3]
  ·exact o (o (o (o (o (e _ _ _ (by simp))))))
  ·exact o (o (o (o (e _ _ _ (by simp)))))
  ·exact o (o (o (e _ _ _ (by simp)))))
 clear hW3 hw3
 have hz3 := HB.out.2
 have HR := Lib.hid (HX.out.below HB.out.1)
 refine wpIn_seqB (α := Fc) rfl (by decide) (gf := 126) (lb := #[.pointer (some ⟨w.heap.size + 4, 0, none⟩), .pointer (some ⟨w.heap.size + 5, 0, none⟩), .pointer (some ⟨w.heap.size + 6, 0, none⟩)]) rfl trivial (enters_of Tryz.func126 (by kernel_rfl) rfl)
  (own := fun _ => False) (free := fun b => w.heap.size + 2 ≤ b ∧ b < w.heap.size + 4) (fun _ h => h.elim)
  (of_iter W3 4 w.heap.size (w.heap.size + 4) (w.heap.size + 5) (w.heap.size + 6) (by omega) (by omega) (by omega) xs (by omega) ⟨k0, k1, k2⟩ known (fun b => w.heap.size + 2 ≤ b ∧ b < w.heap.size + 4) (fun b h => by omega) (by omega) A c HC.out.1 HC.out.2.1 HC.out.2.2.1 HC.out.2.2.2.1 HC.out.2.2.2.2 HR.out (by omega) (by omega) (by omega))
  (fun _ => rfl) (AtI w term) (fun _ _ _ => False) (AtI.own (by omega)) (fun _ _ _ _ _ h => h.elim) (fun _ _ _ _ _ h => h.elim) (fun _ _ _ _ _ h => h.elim) HI.out Fc.cells 183 ?G ?assign ?body ?done ?stop
 case assign =>
  intro l pre x W K hi hpr hz hK
  simp only [Fc.v]
  gi_wp2
  simp only [Fc.cells] at hK
  obtain ⟨g, hg⟩ : ∃ g, g = W.heap.size := ⟨_, rfl⟩
  rw [← hg]
  exact hK g _ hg rfl
 case body =>
  rintro l' pre x g W hI hpr hz hgz hgc
  have HI2 := Lib.hid hI
  obtain ⟨t1, t2, t3, t4⟩ := hI
  obtain ⟨b0, hb0⟩ : ∃ b0, b0 = optF (bestF term pre) := ⟨_, rfl⟩
  obtain ⟨sm, hsm⟩ : ∃ s, s = (bestF term pre).isSome := ⟨_, rfl⟩
  rw [← hb0] at t2
  rw [← hsm] at t3
  have HB0 := Lib.hid hb0
  have HSM := Lib.hid hsm
  obtain ⟨e0, e1, e2, e3, e4, e5, e6, e7, ef0, ef1, ef2, ef3, ef4, ef5, ef6, ef7, ez⟩ := F8.of hgc
  obtain ⟨d0, d1, d2, d3, d4, d5, d6, d7, df0, df1, df2, df3, df4, df5, df6, df7, dz⟩ := F8.of t2
  obtain ⟨s0, s1, s2⟩ := one_cell t3
  obtain ⟨m0, m1, m2⟩ := one_cell t1
  have HT2 := Lib.hid t2
  have HB4 := Lib.hid t4
  have hkp : Keep2 W3.heap.size (fun b => w.heap.size + 2 ≤ b ∧ b < w.heap.size + 4) W W := Keep2.refl _ _ _
  have HKP := Lib.hid hkp
  clear t1 t2 t3 t4 hpr hb0 hsm hkp
  cases q1 : decide (x.frm ≤ term)
  ·have HS : Hid (bestF term (pre ++ [x]) = bestF term pre) := Lib.hid (by rw [bestF_snoc]; unfold bestStep; rw [q1]; rfl)
   gi_wp2
   all_goals try (exfalso; rename_i hh _; exact undef_bool _ hh)
   all_goals try (exfalso; rename_i hh; exact undef_bool _ hh)
   refine ⟨trivial, ?_⟩
   gi_wp2
   all_goals try (exfalso; rename_i hh _; exact undef_bool _ hh)
   all_goals try (exfalso; rename_i hh; exact undef_bool _ hh)
   exact ⟨KeepsOthers.refl _, HKP.out, HI2.out.same HS.out⟩
  ·cases q2 : decide (term < x.till)
   ·have HS : Hid (bestF term (pre ++ [x]) = bestF term pre) := Lib.hid (by rw [bestF_snoc]; unfold bestStep; rw [q1, q2]; rfl)
    gi_wp2
    all_goals try (exfalso; rename_i hh _; exact undef_bool _ hh)
    all_goals try (exfalso; rename_i hh; exact undef_bool _ hh)
    refine ⟨trivial, ?_⟩
    gi_wp2
    all_goals try (exfalso; rename_i hh _; exact undef_bool _ hh)
    all_goals try (exfalso; rename_i hh; exact undef_bool _ hh)
    exact ⟨KeepsOthers.refl _, HKP.out, HI2.out.same HS.out⟩
   ·cases sm
    ·have HS : Hid (bestF term (pre ++ [x]) = some x) := Lib.hid (by
      have h := HSM.out
      rw [bestF_snoc]
      unfold bestStep
      rw [q1, q2]
      cases hb : bestF term pre with
      | none => rfl
      | some y => rw [hb] at h; cases h)
     gi_wp2
     all_goals try (exfalso; rename_i hh _; exact undef_bool _ hh)
     all_goals try (exfalso; rename_i hh; exact undef_bool _ hh)
     refine ⟨trivial, ?_⟩
     gi_wp2
     exact ⟨(put8_keeps _ _ x).trans (KeepsOthers.setCell _ _ _), (put8_keep2 (b := w.heap.size + 2) x HKP.out (by omega)).setCell (a := ⟨w.heap.size + 3, 0, none⟩) ⟨by simp, by simp⟩ _, HI2.out.put HS.out⟩
    ·obtain ⟨r, hr⟩ : ∃ r, r = cmpF x b0 := ⟨_, rfl⟩
     have HS : Hid (bestF term (pre ++ [x]) = if 0 ≤ r then some x else bestF term pre) := Lib.hid (by
      have h := HSM.out
      rw [bestF_snoc, hr, HB0.out]
      unfold bestStep
      rw [q1, q2]
      cases hb : bestF term pre with
      | none => rw [hb] at h; cases h
      | some y => rfl)
     have hC := FCompare_any x b0 W
     rw [← hr] at hC
     unfold Fc.v at hC
     clear hr
     gi_wp2
     refine ⟨trivial, (callsIn_round hC).mono ?_⟩
     rintro e W5 ⟨rfl, hb5⟩
     have HI5 := Lib.hid (HI2.out.step hb5)
     have HK5 : Hid (Keep2 W3.heap.size (fun b => w.heap.size + 2 ≤ b ∧ b < w.heap.size + 4) W W5) := Lib.hid (HKP.out.below hb5)
     have HO5 : Hid (KeepsOthers W W5) := Lib.hid (KeepsOthers.of_below hb5)
     have hgc5 := (hb5.block _ ez).trans hgc
     have t25 := HI5.out.be
     rw [← HB0.out] at t25
     have t35 := HI5.out.so
     rw [← HSM.out] at t35
     clear e0 e1 e2 e3 e4 e5 e6 e7 ef0 ef1 ef2 ef3 ef4 ef5 ef6 ef7 ez d0 d1 d2 d3 d4 d5 d6 d7 df0 df1 df2 df3 df4 df5 df6 df7 dz s0 s1 s2 m0 m1 m2 hb5 hgc
     obtain ⟨e0, e1, e2, e3, e4, e5, e6, e7, ef0, ef1, ef2, ef3, ef4, ef5, ef6, ef7, ez⟩ := F8.of hgc5
     obtain ⟨d0, d1, d2, d3, d4, d5, d6, d7, df0, df1, df2, df3, df4, df5, df6, df7, dz⟩ := F8.of t25
     obtain ⟨s0, s1, s2⟩ := one_cell t35
     clear hgc5 t25 t35
     cases q3 : decide (0 ≤ r)
     ·have HS2 : Hid (bestF term (pre ++ [x]) = bestF term pre) := Lib.hid (by rw [HS.out, if_neg (by simpa using q3)])
      gi_wp2
      exact ⟨HO5.out, HK5.out, HI5.out.same HS2.out⟩
     ·have HS2 : Hid (bestF term (pre ++ [x]) = some x) := Lib.hid (by rw [HS.out, if_pos (by simpa using q3)])
      gi_wp2
      exact ⟨(HO5.out.trans (put8_keeps _ _ x)).trans (KeepsOthers.setCell _ _ _), (put8_keep2 (b := w.heap.size + 2) x HK5.out (by omega)).setCell (a := ⟨w.heap.size + 3, 0, none⟩) ⟨by simp, by simp⟩ _, HI5.out.put HS2.out⟩
 case done =>
  rintro D' ys W hD rfl hI hK
  have HB4 := Lib.hid hI.bw
  have HK := Lib.hid hK
  obtain ⟨b, hb⟩ : ∃ b, b = bestF term (xs.filter (ofP ⟨k0, k1, k2⟩ known)) := ⟨_, rfl⟩
  have t2 := hI.be
  have t3 := hI.so
  rw [← hb] at t2 t3
  have HA : Hid (atF xs ⟨k0, k1, k2⟩ term known = atO b) := Lib.hid (by unfold atF; rw [hb])
  obtain ⟨d0, d1, d2, d3, d4, d5, d6, d7, df0, df1, df2, df3, df4, df5, df6, df7, dz⟩ := F8.of t2
  obtain ⟨s0, s1, s2⟩ := one_cell t3
  have hwz : w.heap.size ≤ W.heap.size := hI.bw.size
  have hdw : w.heap.size ≤ D' := by omega
  clear hI hb t2 t3 hK
  cases b with
  | none =>
    simp only [Option.isSome_none] at s0
    gi_wp2
    go_wp2_with fail
    refine ⟨by simp, .inl ⟨_, _, rfl, run_takeDeferred HK.out, ?_⟩⟩
    refine ⟨.tuple #[.int .i64 0, .bool false], by simp [results, Tryz.results53, go_sem], ?_⟩
    exact ⟨by rw [HA.out]; rfl, HB4.out.grown (grownBy_putObj' _ D' (.deferred none)) hwz (fun k e => by cases e; exact hdw)⟩
  | some f =>
    simp only [Option.isSome_some] at s0
    simp only [optF, Option.getD_some] at d0 d1 d2 d3 d4 d5 d6 d7
    cases q1 : decide (f.val < 0)
    ·gi_wp2
     go_wp2_with fail
     refine ⟨by simp, .inl ⟨_, _, rfl, run_takeDeferred HK.out, ?_⟩⟩
     refine ⟨.tuple #[.int .i64 f.val, .bool true], by simp [results, Tryz.results53, go_sem], ?_⟩
     exact ⟨by rw [HA.out]; simp only [atO, if_neg (show ¬ f.val < 0 by simpa using q1)], HB4.out.grown (grownBy_putObj' _ D' (.deferred none)) hwz (fun k e => by cases e; exact hdw)⟩
    ·gi_wp2
     go_wp2_with fail
     refine ⟨by simp, .inl ⟨_, _, rfl, run_takeDeferred HK.out, ?_⟩⟩
     refine ⟨.tuple #[.int .i64 0, .bool false], by simp [results, Tryz.results53, go_sem], ?_⟩
     exact ⟨by rw [HA.out]; simp only [atO, if_pos (show f.val < 0 by simpa using q1)], HB4.out.grown (grownBy_putObj' _ D' (.deferred none)) hwz (fun k e => by cases e; exact hdw)⟩
 case stop => exact fun D' cc pre W hD _ h hK => h.elim
end Go.Proofs.YtalmbigebjbaoaaGreatDoor
namespace Go.Proofs.YtalmbigebjbaoaaGreatDoor
open Go.RowKit Go.Shelf
set_option linter.unusedSimpArgs false
set_option linter.unusedVariables false
theorem bkIn_any (n lo hi : Int) (w : World) :
 Calls Tryz.prog 51 #[.int .i64 n, .int .i64 lo, .int .i64 hi] w fun e w' => e = .returned (.bool (inB n lo hi)) ∧ w = w' := by
 go_enter Tryz.func51, Tryz.ntmps51
 go_wp2
 all_goals go_ret
 all_goals refine ⟨ret_bool ?_, rfl⟩
 all_goals (unfold inB; simp_all <;> omega)
theorem bkFrom_any (n : Int) (w : World) :
 Calls Tryz.prog 108 #[.int .i64 n] w fun e w' => e = .returned (.bool (inB n 0 4095)) ∧ w = w' := by
 go_enter Tryz.func108, Tryz.ntmps108
 go_wp2_with fail
 refine (bkIn_any _ _ _ _).mono ?_
 rintro e w1 ⟨rfl, rfl⟩
 go_wp2_with fail
 go_ret
 exact ⟨rfl, rfl⟩
theorem bkNotFrom_any (b : Nat) (n : Int) (w : World) (hb : w.cell? ⟨b, 0, none⟩ = some (.func (.func 108) #[] #[])) :
 Calls Tryz.prog 142 #[.int .i64 n, .pointer (some ⟨b, 0, none⟩)] w fun e w' => e = .returned (.bool (!inB n 0 4095)) ∧ w = w' := by
 go_enter Tryz.func142, Tryz.ntmps142
 go_wp2_with fail
 refine (bkFrom_any _ _).mono ?_
 rintro e w1 ⟨rfl, rfl⟩
 go_wp2_with fail
 go_ret
 exact ⟨rfl, rfl⟩
theorem bkAllI_any (xs : List Int) (A : Option Addr) (c : Nat) (w : World) (hx : Reads w w.heap.size A 1 intE xs) (hl : xs.length ≤ 9223372036854775807) :
 Calls Tryz.prog 109 #[.slice A xs.length c, .func (.func 108) #[] #[]] w fun e w' => e = .returned (.bool (!(xs.any (fun c => !inB c 0 4095)))) ∧ Below w.heap.size w w' := by
 have HX := Lib.hid hx
 clear hx
 obtain ⟨b, hb⟩ : ∃ b, b = xs.any (fun c => !inB c 0 4095) := ⟨_, rfl⟩
 have hC := dgContains_any (fun c => !inB c 0 4095) 142 #[.pointer (some ⟨w.heap.size, 0, none⟩)] xs A c (w.alloc (.cells #[.func (.func 108) #[] #[]] 137)) (fun x W h => (bkNotFrom_any w.heap.size x W (by
  have h1 := h.cell (p := ⟨w.heap.size, 0, none⟩) (by simp)
  rw [h1]
  simp [go_sem])).mono fun e W' h => ⟨h.1, by rw [← h.2]; exact Below.refl _ _⟩) (enters_of Tryz.func142 (by kernel_rfl) rfl) ((HX.out.alloc (Nat.le_refl _) _).more (by simp)) hl
 rw [← hb] at hC ⊢
 have HC := Lib.hid hC
 clear hC hb
 go_enter Tryz.func109, Tryz.ntmps109
 go_wp2_with fail
 refine HC.out.mono ?_
 rintro e w1 ⟨rfl, hb1⟩
 have HB : Hid (Below w.heap.size w w1) := Lib.hid (((Below.refl _ _).alloc (Nat.le_refl _) _).trans (hb1.mono (by simp)))
 go_wp2_with fail
 go_ret
 exact ⟨rfl, HB.out⟩
set_option maxHeartbeats 2000000 in
theorem bkGood_any {P : Nat → Prop} (q : Rq) (nm : ByteArray) (ns f : Sl) (w : World) (hf : SlR w P 1 intE f q.fr) :
 Calls Tryz.prog 60 #[rqV q nm ns f] w fun e w' => e = .returned (.bool (goodQ q)) ∧ Below w.heap.size w w' := by
 obtain ⟨A, n, c⟩ := f
 have hn := hf.1
 simp only at hn
 subst hn
 have hm : q.fr.length ≤ 9223372036854775807 := Nat.le_trans hf.2.1 hf.2.2.1
 have HR := Lib.hid hf.reads
 clear hf
 unfold rqV goodQ
 simp only
 cases b1 : inB q.credits 1 10000
 ·have B1 := Lib.hid b1
  clear b1
  go_enter Tryz.func60, Tryz.ntmps60
  go_wp2_with fail
  refine (bkIn_any _ _ _ _).mono ?_
  rw [B1.out]
  rintro e w1 ⟨rfl, rfl⟩
  go_wp2_with fail
  go_ret
  exact ⟨rfl, by go_grown⟩
 have B1 := Lib.hid b1
 clear b1
 cases b2 : inB q.grade 0 12
 ·have B2 := Lib.hid b2
  clear b2
  go_enter Tryz.func60, Tryz.ntmps60
  go_wp2_with fail
  refine (bkIn_any _ _ _ _).mono ?_
  rw [B1.out]
  rintro e w1 ⟨rfl, rfl⟩
  go_wp2_with fail
  refine (bkIn_any _ _ _ _).mono ?_
  rw [B2.out]
  rintro e w1 ⟨rfl, rfl⟩
  go_wp2_with fail
  go_ret
  exact ⟨rfl, by go_grown⟩
 have B2 := Lib.hid b2
 clear b2
 obtain ⟨b3, hb3⟩ : ∃ b, b = q.fr.any (fun c => !inB c 0 4095) := ⟨_, rfl⟩
 rw [← hb3]
 have B3 := Lib.hid hb3
 clear hb3
 go_enter Tryz.func60, Tryz.ntmps60
 go_wp2_with fail
 refine (bkIn_any _ _ _ _).mono ?_
 rw [B1.out]
 rintro e w1 ⟨rfl, rfl⟩
 go_wp2_with fail
 refine (bkIn_any _ _ _ _).mono ?_
 rw [B2.out]
 rintro e w1 ⟨rfl, rfl⟩
 go_wp2_with fail
 refine (bkAllI_any q.fr A c _ ((HR.out.alloc (Nat.le_refl _) _).more (by simp)) hm).mono ?_
 rw [← B3.out]
 rintro e w1 ⟨rfl, hb1⟩
 go_wp2_with fail
 go_ret
 exact ⟨rfl, ((Below.refl _ _).alloc (Nat.le_refl _) _).trans (hb1.mono (by simp))⟩
def meanB (r : Ra) : Bool := okR' r && inB r.num 0 (12 * r.den)
set_option maxHeartbeats 2000000 in
theorem bkMean_any (r : Ra) (hi : r.i64) (w : World) :
 Calls Tryz.prog 58 #[.agg #[.int .i64 r.num, .int .i64 r.den]] w fun e w' => e = .returned (.bool (meanB r)) ∧ Below w.heap.size w w' := by
 have HC := Lib.hid (fun W => Check_any r hi W)
 have hden : okR' r = true → 1 ≤ r.den ∧ r.den ≤ 1073741824 := fun h => by
  have := checkR_zero (of_decide_eq_true h)
  exact ⟨this.1, this.2.1⟩
 obtain ⟨E, hE⟩ : ∃ E, E = meanB r := ⟨_, rfl⟩
 rw [← hE]
 simp only [Ra.v] at HC
 clear hi
 cases b4 : okR' r
 ·obtain rfl : E = false := by rw [hE]; simp [meanB, b4]
  have B4 : Hid (checkR r = 50) := Lib.hid (by unfold okR' at b4; have := of_decide_eq_false b4; unfold checkR at this ⊢; split <;> simp_all)
  clear hE b4 hden
  go_enter Tryz.func58, Tryz.ntmps58
  go_wp2_with fail
  refine (HC.out _).mono ?_
  rw [B4.out]
  rintro e w2 ⟨rfl, hb2⟩
  have HBE := Lib.hid (((Below.refl w.heap.size w).alloc (Nat.le_refl _) _).trans (hb2.mono (by simp)))
  clear hb2
  go_wp2_with fail
  go_ret
  exact ⟨rfl, HBE.out⟩
 ·have B4 : Hid (checkR r = 0) := Lib.hid (of_decide_eq_true b4)
  obtain ⟨hd1, hd2⟩ := hden b4
  obtain ⟨b5, hb5⟩ : ∃ b, b = inB r.num 0 (12 * r.den) := ⟨_, rfl⟩
  obtain rfl : E = b5 := by rw [hE, hb5]; simp [meanB, b4]
  have hw : wrap64 (12 * r.den) = 12 * r.den := IntWalk.wrap64_in _ ⟨by omega, by omega⟩
  have HB5 := Lib.hid hb5
  have hbx0 := Bx.new w [.int .i64 r.num, .int .i64 r.den] 41
  have HBX0 := Lib.hid hbx0
  clear hE b4 hden hb5 hbx0
  go_enter Tryz.func58, Tryz.ntmps58
  go_wp2_with fail
  refine (HC.out _).mono ?_
  rw [B4.out]
  rintro e w2 ⟨rfl, hb2⟩
  have hbx := HBX0.out.step hb2
  have p0 := hbx.1 0 _ rfl
  have p1 := hbx.1 1 _ rfl
  have HBE := Lib.hid (((Below.refl w.heap.size w).alloc (Nat.le_refl _) _).trans (hb2.mono (by simp)))
  clear hb2 hbx
  go_wp2_with fail
  refine (bkIn_any _ _ _ _).mono ?_
  rw [← HB5.out]
  rintro e w3 ⟨rfl, rfl⟩
  go_wp2_with fail
  go_ret
  exact ⟨rfl, HBE.out⟩
theorem bkNotGood_any {P : Nat → Prop} (b : Nat) (q : Rq) (nm : ByteArray) (ns f : Sl) (w : World) (hf : SlR w P 1 intE f q.fr) (hb : w.cell? ⟨b, 0, none⟩ = some (.func (.func 60) #[] #[])) (hz : b < w.heap.size) :
 Calls Tryz.prog 107 #[rqV q nm ns f, .pointer (some ⟨b, 0, none⟩)] w fun e w' => e = .returned (.bool (!goodQ q)) ∧ Below w.heap.size w w' := by
 have HC := Lib.hid (fun W (h : Below w.heap.size w W) => bkGood_any q nm ns f W (hf.step h))
 clear hf
 unfold rqV at HC ⊢
 go_enter Tryz.func107, Tryz.ntmps107
 go_wp2_with fail
 refine (HC.out _ ((Below.refl _ _).alloc (Nat.le_refl _) _)).mono ?_
 rintro e w1 ⟨rfl, hb1⟩
 have HBE := Lib.hid (((Below.refl w.heap.size w).alloc (Nat.le_refl _) _).trans (hb1.mono (by simp)))
 clear hb1
 go_wp2_with fail
 go_ret
 exact ⟨rfl, HBE.out⟩
set_option maxHeartbeats 4000000 in
theorem bkIndexQ_any {P : Nat → Prop} (b : Nat) (qs : List Rq) (s : Sl) (w : World) (hr : Rqs w P s qs) (hb : w.cell? ⟨b, 0, none⟩ = some (.func (.func 60) #[] #[])) (hz : b < w.heap.size) :
 Calls Tryz.prog 141 #[.slice s.a s.n s.c, .func (.func 107) #[] #[.pointer (some ⟨b, 0, none⟩)]] w fun e w' => (∃ m : Int, e = .returned (.int .i64 m) ∧ decide (0 ≤ m) = qs.any (fun q => !goodQ q)) ∧ Below w.heap.size w w' := by
 have hn := hr.len
 have hmx := hr.max
 have HR := Lib.hid hr
 have HC := Lib.hid hb
 obtain ⟨A, n, c⟩ := s
 simp only at hn hmx
 subst hn
 have hle : qs.length ≤ 9223372036854775807 := by unfold maxLen at hmx; omega
 clear hr hb hmx
 go_enter Tryz.func141, Tryz.ntmps141
 go_wp2_with fail
 go_loopw [8] (fun i wr => ∃ k : Nat, k ≤ qs.length ∧ i = .int .i64 k ∧ (∀ j (h : j < qs.length), j < k → (!goodQ qs[j]) = false) ∧ Below w.heap.size w wr) (fun i _ => qs.length - (intOf i).toNat)
 case atStart => exact ⟨0, Nat.zero_le _, rfl, fun _ _ h => absurd h (by omega), Below.refl _ _⟩
 case round =>
  obtain ⟨k, hk, rfl, hno, hB⟩ := hrel
  have HNO := Lib.hid hno
  clear hno
  by_cases hlt : k < qs.length
  ·obtain ⟨bb, off, q, nm, ns, f, hAe, hbb, hqk, hqf, q0, q1, q2, q3, q4, q5⟩ := (HR.out.step hB).at_ hlt
   simp only at hAe
   subst hAe
   have HXK := Lib.hid hqk
   have HB := Lib.hid hB
   have HF := Lib.hid hqf
   have hB1 : Below wr.heap.size wr (wr.alloc (.cells #[.string nm, .int .i64 q.credits, .int .i64 q.grade, .bool q.home, .slice ns.a ns.n ns.c, .slice f.a f.n f.c] 67)) := (Below.refl _ _).alloc (Nat.le_refl _) _
   have hC := fun (W : World) (h : Below wr.heap.size wr W) => bkNotGood_any b q nm ns f W (hqf.step h) (((HB.out.trans (h.mono HB.out.size)).cell (p := ⟨b, 0, none⟩) hz).trans HC.out) (Nat.lt_of_lt_of_le hz (HB.out.trans (h.mono HB.out.size)).size)
   have HC2 := Lib.hid hC
   clear hqk hqf hB hB1 hC
   unfold rqV at HC2
   cases hp : !goodQ q
   ·have HP := Lib.hid hp
    clear hp
    go_wp2_with fail
    refine (HC2.out _ (by first | exact Below.refl _ _ | exact (Below.refl _ _).alloc (Nat.le_refl _) _)).mono ?_
    rw [HP.out]
    rintro e w1 ⟨rfl, hb1⟩
    have HB1 : Hid (Below wr.heap.size wr w1) := Lib.hid (by first | exact hb1 | exact ((Below.refl _ _).alloc (Nat.le_refl _) _).trans (hb1.mono (by simp)))
    clear hb1
    go_wp2_with fail
    go_roundw
    case rel => exact ⟨k + 1, by omega, by go_num, step_no (p := fun q => !goodQ q) HNO.out HXK.out HP.out, HB.out.trans (HB1.out.mono HB.out.size)⟩
    case measure => simp [intOf]; omega
   ·have HP := Lib.hid hp
    clear hp
    go_wp2_with fail
    refine (HC2.out _ (by first | exact Below.refl _ _ | exact (Below.refl _ _).alloc (Nat.le_refl _) _)).mono ?_
    rw [HP.out]
    rintro e w1 ⟨rfl, hb1⟩
    have HB1 : Hid (Below wr.heap.size wr w1) := Lib.hid (by first | exact hb1 | exact ((Below.refl _ _).alloc (Nat.le_refl _) _).trans (hb1.mono (by simp)))
    clear hb1
    go_wp2_with fail
    go_ret
    exact ⟨⟨_, rfl, by rw [any_true (p := fun q => !goodQ q) HXK.out HP.out]; simp⟩, HB.out.trans (HB1.out.mono HB.out.size)⟩
  ·obtain rfl : k = qs.length := by omega
   have HA : Hid (qs.any (fun q => !goodQ q) = false) := Lib.hid (any_false (fun j hj => HNO.out j hj hj))
   go_wp2_with fail
   go_ret
   exact ⟨⟨_, rfl, by rw [HA.out]; decide⟩, hB⟩
set_option maxHeartbeats 2000000 in
theorem bkAllQ_any {P : Nat → Prop} (qs : List Rq) (s : Sl) (w : World) (hr : Rqs w P s qs) :
 Calls Tryz.prog 59 #[.slice s.a s.n s.c, .func (.func 60) #[] #[]] w fun e w' => e = .returned (.bool (!(qs.any (fun q => !goodQ q)))) ∧ Below w.heap.size w w' := by
 obtain ⟨b, hb⟩ : ∃ b, b = qs.any (fun q => !goodQ q) := ⟨_, rfl⟩
 have hC : Calls Tryz.prog 106 #[.slice s.a s.n s.c, .func (.func 107) #[] #[.pointer (some ⟨w.heap.size, 0, none⟩)]] (w.alloc (.cells #[.func (.func 60) #[] #[]] 140)) fun e w' => e = .returned (.bool b) ∧ Below (w.alloc (.cells #[.func (.func 60) #[] #[]] 140)).heap.size (w.alloc (.cells #[.func (.func 60) #[] #[]] 140)) w' := by
  have hI := bkIndexQ_any w.heap.size qs s (w.alloc (.cells #[.func (.func 60) #[] #[]] 140)) (hr.step ((Below.refl _ _).alloc (Nat.le_refl _) _)) (by simp [go_sem]) (by simp)
  rw [← hb] at hI
  have HI := Lib.hid hI
  clear hI hb hr
  obtain ⟨W0, hW0⟩ : ∃ X, X = (w.alloc (.cells #[.func (.func 60) #[] #[]] 140)) := ⟨_, rfl⟩
  rw [← hW0] at HI ⊢
  clear hW0
  go_enter Tryz.func106, Tryz.ntmps106
  go_wp2_with fail
  refine HI.out.mono ?_
  rintro e w1 ⟨⟨m, rfl, hm⟩, hb1⟩
  have HM := Lib.hid hm
  clear hm
  go_wp2_with fail
  go_ret
  exact ⟨ret_bool HM.out, hb1⟩
 rw [← hb]
 have HC := Lib.hid hC
 clear hC hb hr
 go_enter Tryz.func59, Tryz.ntmps59
 go_wp2_with fail
 refine HC.out.mono ?_
 rintro e w1 ⟨rfl, hb1⟩
 have HB : Hid (Below w.heap.size w w1) := Lib.hid (((Below.refl _ _).alloc (Nat.le_refl _) _).trans (hb1.mono (by simp)))
 clear hb1
 go_wp2_with fail
 go_ret
 exact ⟨rfl, HB.out⟩
end Go.Proofs.YtalmbigebjbaoaaGreatDoor
