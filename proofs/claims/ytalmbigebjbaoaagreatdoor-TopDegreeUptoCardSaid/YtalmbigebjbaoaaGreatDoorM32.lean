/- TopDegree, what its proof leans on: the texts TopV. -/
import Derived.Test.YtalmbigebjbaoaaGreatDoorM25
import Derived.Test.YtalmbigebjbaoaaGreatDoorM30
import Derived.Test.YtalmbigebjbaoaaGreatDoorM02
import Derived.Deep.Cut
namespace Go.Proofs.YtalmbigebjbaoaaGreatDoor
open Go.RowKit Go.Shelf
set_option linter.unusedSimpArgs false
set_option linter.unusedVariables false
attribute [local go_sem] Oper.semAt_some
theorem region_round_below {P : Program} {l' m id : Nat} {Q : Exit → Act → World → Prop} {a : Act} {w : World} {l : List Oper} (hm : P.follows .mixedOrders = true) (hd : noDefer l.toArray = true) (hq : ¬ LetsOut Q) (hB : Region.lexB .any l.toArray = true)
 (h : wpQuiet P l.toArray (fun W => Below w.heap.size w W) (fun a' => ∀ w', Below w.heap.size w w' → Q .normal a' w') l a) : (Code.region id l.toArray true).wpIn (Fence.wide.inRound l') m P Q a w := by
 simp only [Region.lexB, Bool.and_eq_true] at hB
 refine region_round hm hd hq (wpAny_of_quiet (C := fun W => Below w.heap.size w W) (Q := fun a' => ∀ w', Below w.heap.size w w' → Q .normal a' w') (fun _ w' hw' h => h w' hw') _ _ _ _ ((Below.refl _ w).drew) ?_)
 have := wpAnyQ_lex (C := fun W => Below w.heap.size w W) (md := .any) hB.1 l 0 (Array.replicate l.toArray.size false) a (by simp) (by simpa using hB.2) h
 simpa using this
def rowO : Option Fc → Int
 | none => -1
 | some f => max f.val (-1)
def rowV (fs : List Fc) (k : Ky) (known : Int) (t : Nat) : Int := rowO (bestF t (fs.filter (ofP k known)))
def rowA (fs : List Fc) (k : Ky) (known : Int) : Array Value := ((List.range 1024).map fun t => Value.int .i64 (rowV fs k known t)).toArray
theorem heap_set {W : World} {b o : Nat} {C : Array Value} {T : TypeId} {fr : Nat × Nat} (v : Value) (h : W.heap[b]? = some (.cells C T fr)) : (W.setCell ⟨b, o, none⟩ v).heap[b]? = some (.cells (C.setIfInBounds o v) T fr) := by
 simp [World.setCell, Array.getElem?_modify, h]
theorem cell_of {W : World} {b o : Nat} {C : Array Value} {T : TypeId} {v : Value} (h : W.heap[b]? = some (.cells C T (0, 0))) (hv : C[o]? = some v) : W.cell? ⟨b, o, none⟩ = some v ∧ W.frozen? ⟨b, o, none⟩ = false := by
 constructor
 ·simp [World.cell?, h, hv]
 ·simp [World.frozen?, h]
def put8o (W : World) (b o : Nat) (x : Fc) : World := ((((((((W.setCell ⟨b, o, none⟩ (.int .i64 x.kind)).setCell ⟨b, o + 1, none⟩ (.int .i64 x.subj)).setCell ⟨b, o + 2, none⟩ (.int .i64 x.obj)).setCell ⟨b, o + 3, none⟩ (.int .i64 x.val)).setCell ⟨b, o + 4, none⟩ (.int .i64 x.frm)).setCell ⟨b, o + 5, none⟩ (.int .i64 x.till)).setCell ⟨b, o + 6, none⟩ (.int .i64 x.known)).setCell ⟨b, o + 7, none⟩ (.int .i64 x.no))
def set8 (C : Array Value) (o : Nat) (x : Fc) : Array Value := (((((((C.setIfInBounds o (.int .i64 x.kind)).setIfInBounds (o + 1) (.int .i64 x.subj)).setIfInBounds (o + 2) (.int .i64 x.obj)).setIfInBounds (o + 3) (.int .i64 x.val)).setIfInBounds (o + 4) (.int .i64 x.frm)).setIfInBounds (o + 5) (.int .i64 x.till)).setIfInBounds (o + 6) (.int .i64 x.known)).setIfInBounds (o + 7) (.int .i64 x.no)
theorem set8_size (C : Array Value) (o : Nat) (x : Fc) : (set8 C o x).size = C.size := by simp [set8]
theorem set8_far (C : Array Value) (o i : Nat) (x : Fc) (h : i < o ∨ o + 8 ≤ i) : (set8 C o x)[i]? = C[i]? := by
 unfold set8
 repeat rw [Array.getElem?_setIfInBounds_ne (by omega)]
theorem set8_in (C : Array Value) (o j : Nat) (x : Fc) (v : Value) (hj : x.enc[j]? = some v) (hl : o + 8 ≤ C.size) : (set8 C o x)[o + j]? = some v := by
 unfold set8
 simp only [Array.getElem?_setIfInBounds, Array.size_setIfInBounds]
 match j, hj with
 | 0, hj | 1, hj | 2, hj | 3, hj | 4, hj | 5, hj | 6, hj | 7, hj =>
   simp only [Fc.enc, List.getElem?_cons_zero, List.getElem?_cons_succ, Option.some.injEq] at hj
   subst hj
   simp
   try omega
 | n + 8, hj => simp [Fc.enc] at hj
theorem put8o_at {W : World} {b o : Nat} {C : Array Value} {T : TypeId} {fr : Nat × Nat} (x : Fc) (h : W.heap[b]? = some (.cells C T fr)) : (put8o W b o x).heap[b]? = some (.cells (set8 C o x) T fr) := by
 unfold put8o set8
 exact heap_set _ (heap_set _ (heap_set _ (heap_set _ (heap_set _ (heap_set _ (heap_set _ (heap_set _ h)))))))
theorem put8o_far {W : World} {b o b' : Nat} (x : Fc) (h : b' ≠ b) : (put8o W b o x).heap[b']? = W.heap[b']? := by
 unfold put8o
 repeat rw [Below.heap_setCell _ _ _ _ (by first | exact h | exact h.symm)]
theorem put8o_below {W w : World} {B b o : Nat} (x : Fc) (h : Below B w W) (hb : B ≤ b) : Below B w (put8o W b o x) :=
 (((((((h.setCell (p := ⟨b, o, none⟩) hb _).setCell (p := ⟨b, o + 1, none⟩) hb _).setCell (p := ⟨b, o + 2, none⟩) hb _).setCell (p := ⟨b, o + 3, none⟩) hb _).setCell (p := ⟨b, o + 4, none⟩) hb _).setCell (p := ⟨b, o + 5, none⟩) hb _).setCell (p := ⟨b, o + 6, none⟩) hb _).setCell (p := ⟨b, o + 7, none⟩) hb _
theorem put8o_keeps (W : World) (b o : Nat) (x : Fc) : KeepsOthers W (put8o W b o x) :=
 (((((((KeepsOthers.setCell _ _ _).trans (KeepsOthers.setCell _ _ _)).trans (KeepsOthers.setCell _ _ _)).trans (KeepsOthers.setCell _ _ _)).trans (KeepsOthers.setCell _ _ _)).trans (KeepsOthers.setCell _ _ _)).trans (KeepsOthers.setCell _ _ _)).trans (KeepsOthers.setCell _ _ _)
theorem put8o_keep2 {B : Nat} {free : Nat → Prop} {X W : World} {b o : Nat} (x : Fc) (h : Keep2 B free X W) (hb : free b) : Keep2 B free X (put8o W b o x) :=
 (((((((h.setCell (a := ⟨b, o, none⟩) hb _).setCell (a := ⟨b, o + 1, none⟩) hb _).setCell (a := ⟨b, o + 2, none⟩) hb _).setCell (a := ⟨b, o + 3, none⟩) hb _).setCell (a := ⟨b, o + 4, none⟩) hb _).setCell (a := ⟨b, o + 5, none⟩) hb _).setCell (a := ⟨b, o + 6, none⟩) hb _).setCell (a := ⟨b, o + 7, none⟩) hb _
structure VaI (w : World) (g : Nat → Option Fc) (W : World) : Prop where
 be : ∃ C, W.heap[w.heap.size + 2]? = some (.cells C 250 (0, 0)) ∧ C.size = 8192 ∧ ∀ t f, t < 1024 → g t = some f → ∀ (j : Nat) (v : Value), f.enc[j]? = some v → C[t * 8 + j]? = some v
 so : ∃ D, W.heap[w.heap.size + 3]? = some (.cells D 251 (0, 0)) ∧ D.size = 1024 ∧ ∀ t, t < 1024 → D[t]? = some (.bool (g t).isSome)
 ro : ∃ R, W.heap[w.heap.size + 1]? = some (.cells R 232 (0, 0)) ∧ R.size = 1024
 bw : Below w.heap.size w W
theorem VaI.own {α : Type} {w : World} {B : Nat} {g : α → Nat → Option Fc} (hB : w.heap.size + 4 ≤ B) : OwnFrom B (fun x => VaI w (g x)) := fun pre W W' row h hg hr => by
 obtain ⟨⟨C, h1, h2, h3⟩, ⟨D, h4, h5, h6⟩, ⟨R, h7, h8⟩, h9⟩ := h
 have k : ∀ b, b < w.heap.size + 4 → b < W.heap.size → W'.heap[b]? = W.heap[b]? := fun b hb hl => hg.block b hl (fun e => by have := (hr b e.symm).1; omega)
 have z : ∀ {b o}, W.heap[b]? = some o → b < W.heap.size := fun h => (Array.getElem?_eq_some_iff.1 h).1
 exact ⟨⟨C, (k _ (by omega) (z h1)).trans h1, h2, h3⟩, ⟨D, (k _ (by omega) (z h4)).trans h4, h5, h6⟩, ⟨R, (k _ (by omega) (z h7)).trans h7, h8⟩, h9.grown hg h9.size (fun q e => by have := (hr q e).1; omega)⟩
theorem VaI.step {w W W' : World} {g : Nat → Option Fc} (h : VaI w g W) (hb : Below W.heap.size W W') : VaI w g W' :=
 have z : ∀ {b o}, W.heap[b]? = some o → W'.heap[b]? = some o := fun h => (hb.block _ (Array.getElem?_eq_some_iff.1 h).1).trans h
 ⟨let ⟨C, h1, h2, h3⟩ := h.be; ⟨C, z h1, h2, h3⟩, let ⟨D, h1, h2, h3⟩ := h.so; ⟨D, z h1, h2, h3⟩, let ⟨R, h1, h2⟩ := h.ro; ⟨R, z h1, h2⟩, h.bw.trans (hb.mono h.bw.size)⟩
theorem VaI.same {w W : World} {g g' : Nat → Option Fc} (h : VaI w g W) (he : ∀ t, t < 1024 → g' t = g t) : VaI w g' W :=
 ⟨let ⟨C, h1, h2, h3⟩ := h.be; ⟨C, h1, h2, fun t f ht e => h3 t f ht ((he t ht).symm.trans e)⟩, let ⟨D, h1, h2, h3⟩ := h.so; ⟨D, h1, h2, fun t ht => by rw [he t ht]; exact h3 t ht⟩, h.ro, h.bw⟩
theorem VaI.put {w W : World} {g g' : Nat → Option Fc} {x : Fc} {t : Nat} (h : VaI w g W) (ht : t < 1024) (he : ∀ s, s < 1024 → g' s = if s = t then some x else g s) :
 VaI w g' ((put8o W (w.heap.size + 2) (t * 8) x).setCell ⟨w.heap.size + 3, t, none⟩ (.bool true)) := by
 obtain ⟨⟨C, h1, h2, h3⟩, ⟨D, h4, h5, h6⟩, ⟨R, h7, h8⟩, h9⟩ := h
 refine ⟨⟨set8 C (t * 8) x, ?_, by rw [set8_size, h2], fun s f hs e j v hj => ?_⟩, ⟨D.setIfInBounds t (.bool true), ?_, by simp [h5], fun s hs => ?_⟩, ⟨R, ?_, h8⟩, (put8o_below x h9 (by omega)).setCell (p := ⟨w.heap.size + 3, t, none⟩) (by show w.heap.size ≤ w.heap.size + 3; omega) _⟩
 ·rw [Below.heap_setCell _ _ _ _ (by simp)]
  exact put8o_at x h1
 ·have hj8 : j < 8 := (List.getElem?_eq_some_iff.1 hj).1
  rw [he s hs] at e
  by_cases hst : s = t
  ·subst hst
   rw [if_pos rfl] at e
   cases e
   exact set8_in C _ j x v hj (by omega)
  ·rw [if_neg hst] at e
   rw [set8_far _ _ _ _ (by omega)]
   exact h3 s f hs e j v hj
 ·refine heap_set _ ?_
  rw [put8o_far x (by omega)]
  exact h4
 ·rw [he s hs, Array.getElem?_setIfInBounds]
  by_cases hst : t = s
  ·subst hst
   rw [if_pos rfl, if_pos rfl, if_pos (by omega)]
   rfl
  ·rw [if_neg hst, if_neg (fun e => hst e.symm)]
   exact h6 s hs
 ·rw [Below.heap_setCell _ _ _ _ (by simp), put8o_far x (by omega)]
  exact h7
theorem VaI.one {w W : World} {g : Nat → Option Fc} (h : VaI w g W) {t : Nat} (ht : t < 1024) :
 W.cell? ⟨w.heap.size + 3, t, none⟩ = some (.bool (g t).isSome) ∧ W.frozen? ⟨w.heap.size + 3, t, none⟩ = false ∧ w.heap.size + 3 < W.heap.size := by
 obtain ⟨D, h1, h2, h3⟩ := h.so
 exact ⟨(cell_of h1 (h3 t ht)).1, (cell_of h1 (h3 t ht)).2, (Array.getElem?_eq_some_iff.1 h1).1⟩
theorem VaI.any {w W : World} {g : Nat → Option Fc} (h : VaI w g W) {t : Nat} (ht : t < 1024) (j : Nat) (hj : j < 8) :
 ∃ u, W.cell? ⟨w.heap.size + 2, t * 8 + j, none⟩ = some u ∧ W.frozen? ⟨w.heap.size + 2, t * 8 + j, none⟩ = false := by
 obtain ⟨C, h1, h2, h3⟩ := h.be
 exact ⟨_, cell_of h1 (Array.getElem?_eq_getElem (by omega))⟩
theorem VaI.best {w W : World} {g : Nat → Option Fc} (h : VaI w g W) {t : Nat} (ht : t < 1024) {y : Fc} (hy : g t = some y) (j : Nat) (v : Value) (hj : y.enc[j]? = some v) :
 W.cell? ⟨w.heap.size + 2, t * 8 + j, none⟩ = some v := by
 obtain ⟨C, h1, h2, h3⟩ := h.be
 exact (cell_of h1 (h3 t y ht hy j v hj)).1
def midF (pre : List Fc) (x : Fc) (t s : Nat) : Option Fc := if s < t then bestStep s (bestF s pre) x else bestF s pre
theorem midF_start (pre : List Fc) (x : Fc) (s : Nat) : midF pre x (max 0 x.frm).toNat s = bestF s pre := by
 unfold midF
 split
 ·unfold bestStep
  rw [decide_eq_false (by omega)]
  rfl
 ·rfl
theorem midF_end (pre : List Fc) (x : Fc) (t s : Nat) (ht : min x.till 1024 ≤ t) (hs : s < 1024) : midF pre x t s = bestF s (pre ++ [x]) := by
 unfold midF
 rw [bestF_snoc]
 split
 ·rfl
 ·unfold bestStep
  rw [decide_eq_false (show ¬ (s : Int) < x.till by omega), Bool.and_false]
  rfl
theorem midF_next (pre : List Fc) (x : Fc) (t s : Nat) : midF pre x (t + 1) s = if s = t then bestStep t (bestF t pre) x else midF pre x t s := by
 unfold midF
 by_cases h : s = t
 ·subst h
  rw [if_pos (by omega), if_pos rfl]
 ·rw [if_neg h]
  by_cases h2 : s < t
  ·rw [if_pos (by omega), if_pos h2]
  ·rw [if_neg (by omega), if_neg h2]
theorem midF_at (pre : List Fc) (x : Fc) (t : Nat) : midF pre x t t = bestF t pre := by unfold midF; rw [if_neg (by omega)]
theorem VaI.row {w W : World} {g : Nat → Option Fc} (h : VaI w g W) (t : Nat) (v : Value) : VaI w g (W.setCell ⟨w.heap.size + 1, t, none⟩ v) := by
 obtain ⟨⟨C, h1, h2, h3⟩, ⟨D, h4, h5, h6⟩, ⟨R, h7, h8⟩, h9⟩ := h
 exact ⟨⟨C, (Below.heap_setCell _ _ _ _ (by simp)).trans h1, h2, h3⟩, ⟨D, (Below.heap_setCell _ _ _ _ (by simp)).trans h4, h5, h6⟩, ⟨_, heap_set _ h7, by simp [h8]⟩, h9.setCell (p := ⟨w.heap.size + 1, t, none⟩) (by show w.heap.size ≤ w.heap.size + 1; omega) _⟩
theorem set_upto {R : Array Value} {t : Nat} {f : Nat → Value} {v : Value} (hs : R.size = 1024) (ht : t < 1024) (h : ∀ s, s < t → R[s]? = some (f s)) (hv : v = f t) : ∀ s, s < t + 1 → (R.setIfInBounds t v)[s]? = some (f s) := by
 intro s hst
 rw [Array.getElem?_setIfInBounds]
 by_cases e : t = s
 ·subst e
  rw [if_pos rfl, if_pos (by omega), hv]
 ·rw [if_neg e]
  exact h s (by omega)
theorem row_all {R : Array Value} {f : Nat → Value} (hs : R.size = 1024) (h : ∀ s, s < 1024 → R[s]? = some (f s)) : R = ((List.range 1024).map f).toArray := by
 apply Array.ext_getElem?
 intro i
 by_cases hi : i < 1024
 ·rw [h i hi]
  simp [hi]
 ·rw [Array.getElem?_eq_none (by omega)]
  simp [hi]
theorem results_cell1 {fn : Func} {p : Tmp} {ty : TypeId} (h : fn.results = #[.cell p ty]) {tmps : Array Value} {P : Program} {w : World} {a : Addr} {x : Value} (ha : tmps.getD p undef = .pointer (some a)) (hl : (loadVar ty a).run P w = .ok x w) :
 (results fn tmps).run P w = .ok x w := by
 simp only [results, h]
 simp only [Array.getD_eq_getD_getElem?] at ha
 simp [Sem.run_bind, Result.andThen, ha, asAddr, hl]
theorem infoRow : (Tryz.prog.info? 232).map (·.size) = some 1024 := by kernel_rfl
theorem z251 : Tryz.zeroCells251 = Array.replicate 1024 (.bool false) := by kernel_rfl
set_option maxRecDepth 100000 in
set_option maxHeartbeats 8000000 in
theorem values_any (xs : List Fc) (A : Option Addr) (c : Nat) (k : Ky) (known : Int) (w : World) (hx : Reads w w.heap.size A 8 Fc.enc xs) (hl : xs.length ≤ 100000) :
 Calls Tryz.prog 143 #[.slice A xs.length c, k.v, .int .i64 known] w fun e w' => e = .returned (.agg (rowA xs k known)) ∧ Below w.heap.size w w' := by
 have HX := Lib.hid hx
 clear hx
 obtain ⟨k0, k1, k2⟩ := k
 unfold Ky.v
 simp only
 refine (callsIn_wide (n := 6)).1 ?_
 refine callsIn_of_wp_marks Tryz.func143 rfl trivial ?_ rfl
 simp only [Tryz.ntmps143, List.size_toArray, List.length_cons, List.length_nil, Nat.reduceAdd, Nat.reduceSub, Array.replicate_succ, Array.replicate_zero, List.push_toArray, List.append_toArray, List.nil_append, List.cons_append]
 refine wpIn_wide.2 ?_
 go_wp2_with fail
 refine (of_any A xs.length c ⟨k0, k1, k2⟩ known _).mono ?_
 rintro e w3 ⟨rfl, hw3⟩
 go_wp2_with fail
 refine (wpIn_wide (n := 5)).1 ?_
 refine abs_world ?_
 intro W3 hW3
 have HB : Hid (Below w.heap.size w W3 ∧ W3.heap.size = w.heap.size + 7) := Lib.hid (by
  rw [hW3]
  exact ⟨(((((((Below.refl _ w).alloc (Nat.le_refl _) _).alloc (by simp) _).alloc (by simp <;> omega) _).alloc (by simp <;> omega) _).alloc (by simp <;> omega) _).alloc (by simp <;> omega) _).alloc (by simp <;> omega) _, by simp⟩)
 have HC : Hid (W3.cell? ⟨w.heap.size + 4, 0, none⟩ = some (.slice A xs.length c) ∧ W3.cell? ⟨w.heap.size + 5, 0, none⟩ = some (.int .i64 k0) ∧ W3.cell? ⟨w.heap.size + 5, 1, none⟩ = some (.int .i64 k1) ∧ W3.cell? ⟨w.heap.size + 5, 2, none⟩ = some (.int .i64 k2) ∧ W3.cell? ⟨w.heap.size + 6, 0, none⟩ = some (.int .i64 known)) := Lib.hid (by
  rw [hW3]
  refine ⟨?_, ?_, ?_, ?_, ?_⟩ <;> simp [go_sem])
 have HI : Hid (VaI w (fun s => bestF s []) W3) := Lib.hid (by
  have o : ∀ {W : World} {b : Nat} {q r : Obj}, W.heap[b]? = some q → (W.alloc r).heap[b]? = some q := fun {W b q r} h => (Below.heap_alloc _ _ _ (Array.getElem?_eq_some_iff.1 h).1).trans h
  have e : ∀ (W : World) (q : Obj) (b : Nat), b = W.heap.size → (W.alloc q).heap[b]? = some q := fun W q b h => by subst h; exact World.alloc_heap_new _ _
  refine ⟨⟨Tryz.zeroCells250, ?_, Tryz.zeroCells250_size, fun t f _ h => by cases h⟩, ⟨Tryz.zeroCells251, ?_, Tryz.zeroCells251_size, fun t ht => by rw [z251]; simp [ht, bestF]⟩, ⟨Tryz.zeroCells232, ?_, Tryz.zeroCells232_size⟩, HB.out.1⟩ <;> rw [hW3]
  ·exact o (o (o (o (e _ _ _ (by simp)))))
  ·exact o (o (o (e _ _ _ (by simp))))
  ·exact o (o (o (o (o (e _ _ _ (by simp)))))))
 clear hW3 hw3
 have hz3 := HB.out.2
 have HR := Lib.hid (HX.out.below HB.out.1)
 refine wpIn_seqB (α := Fc) rfl (by decide) (gf := 126) (lb := #[.pointer (some ⟨w.heap.size + 4, 0, none⟩), .pointer (some ⟨w.heap.size + 5, 0, none⟩), .pointer (some ⟨w.heap.size + 6, 0, none⟩)]) rfl trivial (enters_of Tryz.func126 (by kernel_rfl) rfl)
  (own := fun _ => False) (free := fun b => w.heap.size + 2 ≤ b ∧ b < w.heap.size + 4) (fun _ h => h.elim)
  (of_iter W3 4 w.heap.size (w.heap.size + 4) (w.heap.size + 5) (w.heap.size + 6) (by omega) (by omega) (by omega) xs (by omega) ⟨k0, k1, k2⟩ known (fun b => w.heap.size + 2 ≤ b ∧ b < w.heap.size + 4) (fun b h => by omega) (by omega) A c HC.out.1 HC.out.2.1 HC.out.2.2.1 HC.out.2.2.2.1 HC.out.2.2.2.2 HR.out (by omega) (by omega) (by omega))
  (fun _ => rfl) (fun pre => VaI w (fun s => bestF s pre)) (fun _ _ _ => False) (VaI.own (g := fun pre s => bestF s pre) (by omega)) (fun _ _ _ _ _ h => h.elim) (fun _ _ _ _ _ h => h.elim) (fun _ _ _ _ _ h => h.elim) HI.out Fc.cells 183 ?G ?assign ?body ?done ?stop
 case assign =>
  intro l pre x W K hi hpr hz hK
  simp only [Fc.v]
  gi_wp2
  simp only [Fc.cells] at hK
  obtain ⟨g, hg⟩ : ∃ g, g = W.heap.size := ⟨_, rfl⟩
  rw [← hg]
  exact hK g _ hg rfl
 case body =>
  rintro l' pre x g W hI hpr hz hgz hgc
  have HI2 := Lib.hid (hI.same (g' := midF pre x (max 0 x.frm).toNat) (fun t _ => midF_start pre x t))
  obtain ⟨e0, e1, e2, e3, e4, e5, e6, e7, ef0, ef1, ef2, ef3, ef4, ef5, ef6, ef7, ez⟩ := F8.of hgc
  have HGC := Lib.hid hgc
  obtain ⟨t0, ht0⟩ : ∃ t0 : Nat, t0 = (max 0 x.frm).toNat := ⟨_, rfl⟩
  obtain ⟨mn, hmn0⟩ : ∃ mn : Int, mn = min x.till 1024 := ⟨_, rfl⟩
  have hmx : ∀ W, (Builtin.max_ #[3, 3] 3 #[.int .i64 0, .int .i64 x.frm]).run Tryz.prog W = .ok (.int .i64 (t0 : Int)) W := fun W => by
   rw [show (t0 : Int) = max 0 x.frm by omega]
   simp [Builtin.max_, Builtin.max2]
   omega
  have hmn : ∀ W, (Builtin.min_ #[3, 3] 3 #[.int .i64 x.till, .int .i64 1024]).run Tryz.prog W = .ok (.int .i64 mn) W := fun W => by
   rw [hmn0]
   simp [Builtin.min_, Builtin.min2]
   omega
  have HMN := Lib.hid hmn0
  have HT0' := Lib.hid ht0
  rw [← ht0] at HI2
  clear hI hpr hgc ht0 hmn0
  gi_wp2
  gi_loopw [10] (fun i wr => ∃ t : Nat, i = .int .i64 t ∧ t0 ≤ t ∧ VaI w (midF pre x t) wr ∧ wr.heap[g]? = some (.cells x.cells 183 (0, 0)) ∧ Keep2 W3.heap.size (fun b => w.heap.size + 2 ≤ b ∧ b < w.heap.size + 4) W wr ∧ KeepsOthers W wr) (fun i _ => 1024 - (intOf i).toNat)
  case atStart => exact ⟨t0, rfl, Nat.le_refl _, HI2.out, HGC.out, Keep2.refl _ _ _, KeepsOthers.refl _⟩
  case round =>
   obtain ⟨t, rfl, ht0, hv, hgr, hkr, hor⟩ := hrel
   have HV := Lib.hid hv
   have HT0 : Hid (x.frm ≤ (t : Int)) := Lib.hid (by have := HT0'.out; omega)
   have HKR := Lib.hid hkr
   have HOR := Lib.hid hor
   have HGR := Lib.hid hgr
   clear e0 e1 e2 e3 e4 e5 e6 e7 ef0 ef1 ef2 ef3 ef4 ef5 ef6 ef7 ez
   obtain ⟨e0, e1, e2, e3, e4, e5, e6, e7, ef0, ef1, ef2, ef3, ef4, ef5, ef6, ef7, ez⟩ := F8.of hgr
   clear hv hgr hkr hor hmx
   cases q0 : decide ((t : Int) < mn)
   ·have HE : Hid (VaI w (fun s => bestF s (pre ++ [x])) wr) := Lib.hid (HV.out.same (fun s hs => (midF_end pre x t s (by have := HMN.out; have := of_decide_eq_false q0; omega) hs).symm))
    gi_wp2
    exact ⟨HOR.out, HKR.out, HE.out⟩
   ·have ht : t < 1024 := by have := HMN.out; have := of_decide_eq_true q0; omega
    have hb0 : (0 : Int) ≤ (t : Int) := by omega
    have hb1 : (t : Int) < 1024 := by omega
    have hb2 : ((t : Int)).toNat = t := Int.toNat_natCast t
    obtain ⟨s0, sf, sz⟩ := HV.out.one ht
    rw [midF_at] at s0
    obtain ⟨bo, hbo⟩ : ∃ bo, bo = bestF t pre := ⟨_, rfl⟩
    rw [← hbo] at s0
    have HBO := Lib.hid hbo
    clear hbo
    cases bo with
    | none =>
      simp only [Option.isSome_none] at s0
      have HST : Hid (bestStep t (bestF t pre) x = some x) := Lib.hid (by
       rw [← HBO.out]
       unfold bestStep
       rw [decide_eq_true (show x.frm ≤ (t : Int) by have := HT0.out; omega), decide_eq_true (show (t : Int) < x.till by have := HMN.out; have := of_decide_eq_true q0; omega)]
       rfl)
      gi_wp2
      refine region_round_below (by kernel_rfl) (by kernel_rfl) (fun ⟨a, w, h⟩ => h) (by kernel_rfl) ?_
      repeat (first
       | go_big_quiet_skip
       | (go_big_quiet_want
          first
           | (apply quiet_val
              focus (
               intro WC hWC
               obtain ⟨hcc0, hff0⟩ := bcell hWC
               go_simp
               all_goals rfl
               done)
              go_simp
              go_big_quiet_on)))
      refine wpQuiet_nil ?_
      intro W5 hW5
      have HV5 := Lib.hid (HV.out.step hW5)
      have HGR5 := Lib.hid ((hW5.block _ ez).trans HGR.out)
      have HKR5 : Hid (Keep2 W3.heap.size (fun b => w.heap.size + 2 ≤ b ∧ b < w.heap.size + 4) W W5) := Lib.hid (HKR.out.below hW5)
      have HOR5 : Hid (KeepsOthers W W5) := Lib.hid (HOR.out.trans (KeepsOthers.of_below hW5))
      clear e0 e1 e2 e3 e4 e5 e6 e7 ef0 ef1 ef2 ef3 ef4 ef5 ef6 ef7 ez s0 sf sz hW5
      obtain ⟨e0, e1, e2, e3, e4, e5, e6, e7, ef0, ef1, ef2, ef3, ef4, ef5, ef6, ef7, ez⟩ := F8.of HGR5.out
      obtain ⟨s0, sf, sz⟩ := HV5.out.one ht
      obtain ⟨u0, p0, pf0⟩ := HV5.out.any ht 0 (by decide)
      obtain ⟨u1, p1, pf1⟩ := HV5.out.any ht 1 (by decide)
      obtain ⟨u2, p2, pf2⟩ := HV5.out.any ht 2 (by decide)
      obtain ⟨u3, p3, pf3⟩ := HV5.out.any ht 3 (by decide)
      obtain ⟨u4, p4, pf4⟩ := HV5.out.any ht 4 (by decide)
      obtain ⟨u5, p5, pf5⟩ := HV5.out.any ht 5 (by decide)
      obtain ⟨u6, p6, pf6⟩ := HV5.out.any ht 6 (by decide)
      obtain ⟨u7, p7, pf7⟩ := HV5.out.any ht 7 (by decide)
      simp only [Nat.add_zero] at p0 pf0
      have HN : Hid (VaI w (midF pre x (t + 1)) ((put8o W5 (w.heap.size + 2) (t * 8) x).setCell ⟨w.heap.size + 3, t, none⟩ (.bool true))) := Lib.hid (HV5.out.put ht (fun s _ => by
       rw [midF_next]
       by_cases h : s = t
       ·rw [if_pos h, if_pos h, HST.out]
       ·rw [if_neg h, if_neg h]))
      have HG6 : Hid (((put8o W5 (w.heap.size + 2) (t * 8) x).setCell ⟨w.heap.size + 3, t, none⟩ (.bool true)).heap[g]? = some (.cells x.cells 183 (0, 0))) := Lib.hid (by
       rw [Below.heap_setCell _ _ _ _ (by simp; omega), put8o_far x (by omega)]
       exact HGR5.out)
      have HK6 : Hid (Keep2 W3.heap.size (fun b => w.heap.size + 2 ≤ b ∧ b < w.heap.size + 4) W ((put8o W5 (w.heap.size + 2) (t * 8) x).setCell ⟨w.heap.size + 3, t, none⟩ (.bool true))) := Lib.hid ((put8o_keep2 x HKR5.out (by omega)).setCell (a := ⟨w.heap.size + 3, t, none⟩) (by show _ ≤ w.heap.size + 3 ∧ w.heap.size + 3 < _; omega) _)
      have HO6 : Hid (KeepsOthers W ((put8o W5 (w.heap.size + 2) (t * 8) x).setCell ⟨w.heap.size + 3, t, none⟩ (.bool true))) := Lib.hid ((HOR5.out.trans (put8o_keeps _ _ _ x)).trans (KeepsOthers.setCell _ _ _))
      gi_wp2
      go_roundw
      case rel => exact ⟨t + 1, by go_num, by omega, HN.out, HG6.out, HK6.out, HO6.out⟩
      case measure => simp [intOf]; omega
    | some y =>
      simp only [Option.isSome_some] at s0
      obtain ⟨r, hr⟩ : ∃ r, r = cmpF x y := ⟨_, rfl⟩
      have HC := Lib.hid (fun W => FCompare_any x y W)
      rw [← hr] at HC
      unfold Fc.v at HC
      have HST0 : Hid (bestStep t (bestF t pre) x = if 0 ≤ r then some x else some y) := Lib.hid (by
       rw [← HBO.out]
       unfold bestStep
       rw [decide_eq_true (show x.frm ≤ (t : Int) by have := HT0.out; omega), decide_eq_true (show (t : Int) < x.till by have := HMN.out; have := of_decide_eq_true q0; omega), hr]
       rfl)
      have HRR := Lib.hid hr
      clear hr
      have p0 := HV.out.best ht ((midF_at pre x t).trans HBO.out.symm) 0 _ rfl
      have p1 := HV.out.best ht ((midF_at pre x t).trans HBO.out.symm) 1 _ rfl
      have p2 := HV.out.best ht ((midF_at pre x t).trans HBO.out.symm) 2 _ rfl
      have p3 := HV.out.best ht ((midF_at pre x t).trans HBO.out.symm) 3 _ rfl
      have p4 := HV.out.best ht ((midF_at pre x t).trans HBO.out.symm) 4 _ rfl
      have p5 := HV.out.best ht ((midF_at pre x t).trans HBO.out.symm) 5 _ rfl
      have p6 := HV.out.best ht ((midF_at pre x t).trans HBO.out.symm) 6 _ rfl
      have p7 := HV.out.best ht ((midF_at pre x t).trans HBO.out.symm) 7 _ rfl
      simp only [Nat.add_zero] at p0
      have hz2 : w.heap.size + 2 < wr.heap.size := by omega
      cases q3 : decide (0 ≤ r)
      ·have HST : Hid (bestStep t (bestF t pre) x = some y) := Lib.hid (by rw [HST0.out, if_neg (by simpa using q3)])
       gi_wp2
       refine region_round_below (by kernel_rfl) (by kernel_rfl) (fun ⟨a, w, h⟩ => h) (by kernel_rfl) ?_
       repeat (first
        | go_big_quiet_skip
        | (go_big_quiet_want
           first
            | (apply quiet_val
               focus (
                intro WC hWC
                obtain ⟨hcc0, hff0⟩ := bcell hWC
                go_simp
                all_goals rfl
                done)
               go_simp
               go_big_quiet_on)
            | (apply quiet_call
               focus (
                intro WC hWC
                go_simp
                all_goals (first | rfl | exact ⟨rfl, rfl⟩)
                done)
               focus (
                intro WC hWC
                exact (HC.out WC).mono fun e w' h => ⟨h.1, hWC.trans (h.2.mono hWC.size)⟩
                done)
               go_simp
               go_big_quiet_on)))
       refine wpQuiet_nil ?_
       intro W5 hW5
       have HV5 := Lib.hid (HV.out.step hW5)
       have HGR5 := Lib.hid ((hW5.block _ ez).trans HGR.out)
       have HKR5 : Hid (Keep2 W3.heap.size (fun b => w.heap.size + 2 ≤ b ∧ b < w.heap.size + 4) W W5) := Lib.hid (HKR.out.below hW5)
       have HOR5 : Hid (KeepsOthers W W5) := Lib.hid (HOR.out.trans (KeepsOthers.of_below hW5))
       clear e0 e1 e2 e3 e4 e5 e6 e7 ef0 ef1 ef2 ef3 ef4 ef5 ef6 ef7 ez s0 sf sz hW5 p0 p1 p2 p3 p4 p5 p6 p7
       gi_wp2
       go_roundw
       case rel => exact ⟨t + 1, by go_num, by omega, HV5.out.same (fun s _ => by
        rw [midF_next]
        by_cases h : s = t
        ·rw [if_pos h, HST.out, h, midF_at, ← HBO.out]
        ·rw [if_neg h]), HGR5.out, HKR5.out, HOR5.out⟩
       case measure => simp [intOf]; omega
      ·have HST : Hid (bestStep t (bestF t pre) x = some x) := Lib.hid (by rw [HST0.out, if_pos (by simpa using q3)])
       gi_wp2
       refine region_round_below (by kernel_rfl) (by kernel_rfl) (fun ⟨a, w, h⟩ => h) (by kernel_rfl) ?_
       repeat (first
        | go_big_quiet_skip
        | (go_big_quiet_want
           first
            | (apply quiet_val
               focus (
                intro WC hWC
                obtain ⟨hcc0, hff0⟩ := bcell hWC
                go_simp
                all_goals rfl
                done)
               go_simp
               go_big_quiet_on)
            | (apply quiet_call
               focus (
                intro WC hWC
                go_simp
                all_goals (first | rfl | exact ⟨rfl, rfl⟩)
                done)
               focus (
                intro WC hWC
                exact (HC.out WC).mono fun e w' h => ⟨h.1, hWC.trans (h.2.mono hWC.size)⟩
                done)
               go_simp
               go_big_quiet_on)))
       refine wpQuiet_nil ?_
       intro W5 hW5
       have HV5 := Lib.hid (HV.out.step hW5)
       have HGR5 := Lib.hid ((hW5.block _ ez).trans HGR.out)
       have HKR5 : Hid (Keep2 W3.heap.size (fun b => w.heap.size + 2 ≤ b ∧ b < w.heap.size + 4) W W5) := Lib.hid (HKR.out.below hW5)
       have HOR5 : Hid (KeepsOthers W W5) := Lib.hid (HOR.out.trans (KeepsOthers.of_below hW5))
       clear e0 e1 e2 e3 e4 e5 e6 e7 ef0 ef1 ef2 ef3 ef4 ef5 ef6 ef7 ez s0 sf sz hW5 p0 p1 p2 p3 p4 p5 p6 p7
       obtain ⟨e0, e1, e2, e3, e4, e5, e6, e7, ef0, ef1, ef2, ef3, ef4, ef5, ef6, ef7, ez⟩ := F8.of HGR5.out
       obtain ⟨s0, sf, sz⟩ := HV5.out.one ht
       obtain ⟨u0, p0, pf0⟩ := HV5.out.any ht 0 (by decide)
       obtain ⟨u1, p1, pf1⟩ := HV5.out.any ht 1 (by decide)
       obtain ⟨u2, p2, pf2⟩ := HV5.out.any ht 2 (by decide)
       obtain ⟨u3, p3, pf3⟩ := HV5.out.any ht 3 (by decide)
       obtain ⟨u4, p4, pf4⟩ := HV5.out.any ht 4 (by decide)
       obtain ⟨u5, p5, pf5⟩ := HV5.out.any ht 5 (by decide)
       obtain ⟨u6, p6, pf6⟩ := HV5.out.any ht 6 (by decide)
       obtain ⟨u7, p7, pf7⟩ := HV5.out.any ht 7 (by decide)
       simp only [Nat.add_zero] at p0 pf0
       have HN : Hid (VaI w (midF pre x (t + 1)) ((put8o W5 (w.heap.size + 2) (t * 8) x).setCell ⟨w.heap.size + 3, t, none⟩ (.bool true))) := Lib.hid (HV5.out.put ht (fun s _ => by
        rw [midF_next]
        by_cases h : s = t
        ·rw [if_pos h, if_pos h, HST.out]
        ·rw [if_neg h, if_neg h]))
       have HG6 : Hid (((put8o W5 (w.heap.size + 2) (t * 8) x).setCell ⟨w.heap.size + 3, t, none⟩ (.bool true)).heap[g]? = some (.cells x.cells 183 (0, 0))) := Lib.hid (by
        rw [Below.heap_setCell _ _ _ _ (by simp; omega), put8o_far x (by omega)]
        exact HGR5.out)
       have HK6 : Hid (Keep2 W3.heap.size (fun b => w.heap.size + 2 ≤ b ∧ b < w.heap.size + 4) W ((put8o W5 (w.heap.size + 2) (t * 8) x).setCell ⟨w.heap.size + 3, t, none⟩ (.bool true))) := Lib.hid ((put8o_keep2 x HKR5.out (by omega)).setCell (a := ⟨w.heap.size + 3, t, none⟩) (by show _ ≤ w.heap.size + 3 ∧ w.heap.size + 3 < _; omega) _)
       have HO6 : Hid (KeepsOthers W ((put8o W5 (w.heap.size + 2) (t * 8) x).setCell ⟨w.heap.size + 3, t, none⟩ (.bool true))) := Lib.hid ((HOR5.out.trans (put8o_keeps _ _ _ x)).trans (KeepsOthers.setCell _ _ _))
       gi_wp2
       go_roundw
       case rel => exact ⟨t + 1, by go_num, by omega, HN.out, HG6.out, HK6.out, HO6.out⟩
       case measure => simp [intOf]; omega
 case done =>
  rintro D' ys W hD rfl hI hK
  have HI2 := Lib.hid hI
  have HK := Lib.hid hK
  have hdw : w.heap.size + 4 ≤ D' := by omega
  clear hI hK
  gi_wp2
  go_wp2_with fail
  go_loopw [46] (fun i wr => ∃ t : Nat, t ≤ 1024 ∧ i = .int .i64 t ∧ VaI w (fun s => bestF s (xs.filter (ofP ⟨k0, k1, k2⟩ known))) wr ∧
   (∃ R, wr.heap[w.heap.size + 1]? = some (.cells R 232 (0, 0)) ∧ R.size = 1024 ∧ ∀ s, s < t → R[s]? = some (.int .i64 (rowV xs ⟨k0, k1, k2⟩ known s))) ∧ wr.heap[D']? = some (.deferred (some []))) (fun i _ => 1024 - (intOf i).toNat)
  case atStart => exact ⟨0, Nat.zero_le _, rfl, HI2.out, let ⟨R, h1, h2⟩ := HI2.out.ro; ⟨R, h1, h2, fun s h => absurd h (by omega)⟩, HK.out⟩
  case round =>
   obtain ⟨t, ht', rfl, hv, ⟨R, hr1, hr2, hr3⟩, hdf⟩ := hrel
   have HV := Lib.hid hv
   have HR1 := Lib.hid hr1
   have HR2 := Lib.hid hr2
   have HR3 := Lib.hid hr3
   have HDF := Lib.hid hdf
   by_cases ht : t < 1024
   ·have hb0 : (0 : Int) ≤ (t : Int) := by omega
    have hb1 : (t : Int) < 1024 := by omega
    have hb2 : ((t : Int)).toNat = t := Int.toNat_natCast t
    obtain ⟨s0, sf, sz⟩ := HV.out.one ht
    obtain ⟨p, pf⟩ := cell_of hr1 (Array.getElem?_eq_getElem (i := t) (by omega))
    obtain ⟨u, hu⟩ : ∃ u, u = R[t] := ⟨_, rfl⟩
    rw [← hu] at p
    obtain ⟨bo, hbo⟩ : ∃ bo, bo = bestF t (xs.filter (ofP ⟨k0, k1, k2⟩ known)) := ⟨_, rfl⟩
    rw [← hbo] at s0
    have HRV : Hid (rowV xs ⟨k0, k1, k2⟩ known t = rowO bo) := Lib.hid (by rw [hbo]; rfl)
    have HBO := Lib.hid hbo
    clear hbo hv hr1 hr2 hr3 hdf hu
    cases bo with
    | none =>
      simp only [Option.isSome_none] at s0
      go_wp2_with fail
      go_roundw
      case rel => exact ⟨t + 1, by omega, by go_num, HV.out.row t _, ⟨_, heap_set _ HR1.out, by simp [HR2.out], set_upto (f := fun s => .int .i64 (rowV xs ⟨k0, k1, k2⟩ known s)) HR2.out ht HR3.out (by rw [HRV.out]; rfl)⟩, by
       rw [Below.heap_setCell _ _ _ _ (by simp; omega)]
       exact HDF.out⟩
      case measure => simp [intOf]; omega
    | some y =>
      simp only [Option.isSome_some] at s0
      have p3 := HV.out.best ht HBO.out.symm 3 _ rfl
      have hmx : ∀ W, (Builtin.max_ #[3, 3] 3 #[.int .i64 y.val, .int .i64 (-1)]).run Tryz.prog W = .ok (.int .i64 (max y.val (-1))) W := fun W => by
       simp [Builtin.max_, Builtin.max2]
       omega
      obtain ⟨m, hm⟩ : ∃ m, m = max y.val (-1) := ⟨_, rfl⟩
      rw [← hm] at hmx
      have HM := Lib.hid hm
      clear hm
      go_wp2_with fail
      go_roundw
      case rel => exact ⟨t + 1, by omega, by go_num, (HV.out.row t _).row t _, ⟨_, heap_set _ (heap_set _ HR1.out), by simp [HR2.out], by
       rw [Array.setIfInBounds_setIfInBounds]
       exact set_upto (f := fun s => .int .i64 (rowV xs ⟨k0, k1, k2⟩ known s)) HR2.out ht HR3.out (by rw [HRV.out, HM.out]; rfl)⟩, by
       rw [Below.heap_setCell _ _ _ _ (by simp; omega), Below.heap_setCell _ _ _ _ (by simp; omega)]
       exact HDF.out⟩
      case measure => simp [intOf]; omega
   ·obtain rfl : t = 1024 := by omega
    have HRA : Hid (R = rowA xs ⟨k0, k1, k2⟩ known) := Lib.hid (row_all HR2.out HR3.out)
    have HRI : Hid ((Tryz.prog.info? 232).map (·.size) = some R.size) := Lib.hid (by rw [HR2.out]; exact infoRow)
    have HRO : Hid (R.all (·.oneCell') = true) := Lib.hid (by
     rw [HRA.out]
     refine all_oneCell_toArray (fun v hv => ?_)
     obtain ⟨i, _, rfl⟩ := List.mem_map.1 hv
     rfl)
    clear hv hr1 hr2 hr3 hdf
    go_upto_region 17 with fail
    repeat (first
     | (refine wpList_load_row rfl 232 (.tmp 6) rfl (w.heap.size + 1) rfl HR1.out Tryz.underlying232 rfl HRI.out ?_)
     | (refine wpList_store_row rfl 232 (.tmp 6) (.tmp 62) rfl (w.heap.size + 1) rfl rfl HR1.out HRI.out rfl HRO.out ?_)
     | go_values | go_skip | go_guarded | go_step | go_upon)
    rw [setRow_self _ _ _ _ _ HR1.out]
    have hdw2 : w.heap.size ≤ D' := by omega
    refine ⟨by simp, .inl ⟨_, _, rfl, run_takeDeferred HDF.out, ?_⟩⟩
    rw [← HRA.out]
    exact ⟨.agg R, results_cell1 Tryz.results143 rfl (loadVar_row_ ((World.putObj_heap_other (by omega)).trans HR1.out) Tryz.underlying232 rfl HRI.out), rfl, HV.out.bw.grown (grownBy_putObj' _ D' (.deferred none)) HV.out.bw.size (fun k e => by cases e; exact hdw2)⟩
 case stop => exact fun D' cc pre W hD _ h hK => h.elim
end Go.Proofs.YtalmbigebjbaoaaGreatDoor
