/- TopDegree, what its proof leans on: the texts AudD. -/
import Derived.Test.YtalmbigebjbaoaaGreatDoorM20
import Derived.Test.YtalmbigebjbaoaaGreatDoorM19
import Derived.Test.YtalmbigebjbaoaaGreatDoorM18
import Derived.BigRegion
namespace Go.Proofs.YtalmbigebjbaoaaGreatDoor
open Go.RowKit Go.Shelf
set_option linter.unusedSimpArgs false
set_option linter.unusedVariables false
attribute [local go_sem] Oper.semAt_some
theorem edE_len (y : Fl.Ed) : (Fl.Ed.enc y).length = 3 := rfl
theorem edE_one (y : Fl.Ed) : ∀ u ∈ Fl.Ed.enc y, u.oneCell' = true := by
 intro u hu
 simp [Fl.Ed.enc] at hu
 rcases hu with rfl | rfl | rfl <;> rfl
theorem Tryz.infoEd : (Tryz.prog.info? 166).map (fun i => (i.zero, i.size, i.bytes)) = some (some (.agg #[.int .i64 0, .int .i64 0, .int .i64 0]), 3, 24) := by kernel_rfl
def edA (p : Pg) (l : List At) (i : Nat) : Fl.Ed := ⟨0, 1 + (i : Int), (l.getD i default).credits * p.uses⟩
def edP (l : List At) (x : Nat × Nat) : Fl.Ed := ⟨1 + (x.1 : Int), 1 + (l.length : Int) + (x.2 : Int), (l.getD x.1 default).credits⟩
def edR (p : Pg) (l : List At) (k : Nat) : Fl.Ed := ⟨1 + (l.length : Int) + (k : Int), 1 + (l.length : Int) + (p.reqs.length : Int), (p.reqs.getD k default).credits⟩
def net1 (p : Pg) (l : List At) (n : Nat) : List Fl.Ed := (List.range n).map (edA p l)
def net2 (l : List At) (xs : List (Nat × Nat)) : List Fl.Ed := xs.map (edP l)
def net3 (p : Pg) (l : List At) (n : Nat) : List Fl.Ed := (List.range n).map (edR p l)
def netL (p : Pg) (l : List At) : List Fl.Ed := net1 p l l.length ++ net2 l (pairsL p l) ++ net3 p l p.reqs.length
theorem map_range_snoc {α : Type} (f : Nat → α) (k : Nat) : (List.range (k + 1)).map f = (List.range k).map f ++ [f k] := by
 rw [List.range_succ, List.map_append]
 rfl
theorem pairs_mem {p : Pg} {l : List At} {x : Nat × Nat} (h : x ∈ pairsL p l) : x.1 < l.length ∧ x.2 < p.reqs.length := by
 unfold pairsL pairsTo at h
 obtain ⟨i, hi, hx⟩ := List.mem_flatMap.1 h
 unfold rowP at hx
 obtain ⟨k, hk, rfl⟩ := List.mem_map.1 hx
 exact ⟨List.mem_range.1 hi, (eligL_mem.1 hk).1⟩
theorem pairs_len (p : Pg) (l : List At) (hr : p.reqs.length ≤ 64) (hl : l.length ≤ 100000) : (pairsL p l).length ≤ 6400000 := by
 have h : ∀ n, (pairsTo p l n).length ≤ n * 64 := fun n => by
  induction n with
  | zero => simp [pairsTo]
  | succ n ih =>
    unfold pairsTo at ih ⊢
    rw [flat_range, List.length_append]
    have : (rowP p l n).length ≤ 64 := by unfold rowP; rw [List.length_map]; exact Nat.le_trans (eligTo_len _ _ _) hr
    omega
 have := h l.length
 unfold pairsL
 omega
theorem Owns.isCells {α : Type} {w : World} {base sz : Nat} {e : TypeId} {en : α → List Value} {v : Value} {ys : List α} (h : Owns w base e sz en v ys) : ∀ g, v.ownBlock = some g → ∃ o, w.heap[g]? = some o ∧ o.isCells = true := by
 intro g hg
 obtain ⟨cs, h, _⟩ := h.typed hg
 exact ⟨_, h, rfl⟩
theorem keeps_grown {W W' : World} {row : Option Nat} (hg : W.grownBy W' row) (hr : ∀ g, row = some g → ∃ o, W.heap[g]? = some o ∧ o.isCells = true) : KeepsOthers W W' :=
 ⟨hg.size, fun k o hk ho => (hg.block k (Array.getElem?_eq_some_iff.1 hk).1 (fun e => by
   obtain ⟨o', h1, h2⟩ := hr k e.symm
   rw [hk] at h1
   cases h1
   rw [ho] at h2
   cases h2)).trans hk⟩
theorem Bx.farC {W : World} {b : Nat} {cs : List Value} (h : Bx W b cs) {a : Addr} (ha : b ≠ a.block) (v : Value) : Bx (W.setCell a v) b cs :=
 h.keep (P := fun x => x = b) ⟨by rw [World.size_setCell]; exact Nat.le_refl _, fun x hx hl => Below.heap_setCell _ _ _ _ (by omega)⟩ rfl
theorem Bx.set1 {W : World} {b : Nat} {v0 : Value} (h : Bx W b [v0]) (v : Value) : Bx (W.setCell ⟨b, 0, none⟩ v) b [v] :=
 ⟨fun i u e => by
   cases i with
   | zero => simp at e; subst e; exact set_at _ _ _ _ (h.1 0 _ rfl)
   | succ i => simp at e, fun i => by rw [World.frozen?_setCell]; exact h.2.1 i, by rw [World.size_setCell]; exact h.2.2⟩
def NtI (w : World) (p : Pg) (l : List At) (s : Sl) (B : Option Addr) (b bm base : Nat) (xs : List Fl.Ed) (v : Value) (W : World) : Prop :=
 Bx W w.heap.size (pgC p s) ∧ Bx W (w.heap.size + 1) [.slice B l.length b] ∧ Bx W (w.heap.size + 1 + 1) [v] ∧ Bx W bm [.int .i64 (1 + (l.length : Int))] ∧ Owns W base 166 3 Fl.Ed.enc v xs ∧ Below w.heap.size w W ∧ base ≤ W.heap.size ∧ w.heap.size + 3 ≤ bm ∧ bm < base
section
variable {w : World} {p : Pg} {l : List At} {s : Sl} {B : Option Addr} {b bm base : Nat} {xs ys : List Fl.Ed} {v v' : Value} {W W' : World}
theorem NtI.step (h : NtI w p l s B b bm base xs v W) (hb : Below W.heap.size W W') : NtI w p l s B b bm base xs v W' := by
 obtain ⟨h1, h2, h3, h4, h5, h6, h7, h8, h9⟩ := h
 exact ⟨h1.step hb, h2.step hb, h3.step hb, h4.step hb, h5.below hb (Nat.le_refl _), h6.trans (hb.mono h6.size), Nat.le_trans h7 hb.size, h8, h9⟩
theorem NtI.app (h : NtI w p l s B b bm base xs v W) (ho : Owns W' base 166 3 Fl.Ed.enc v' ys) (hg : W.grownBy W' v.ownBlock) : NtI w p l s B b bm base ys v' (W'.setCell ⟨w.heap.size + 1 + 1, 0, none⟩ v') := by
 obtain ⟨h1, h2, h3, h4, h5, h6, h7, h8, h9⟩ := h
 have hr : ∀ g, g < base → v.ownBlock ≠ some g := fun g hl e => by have := h5.base_le g e; omega
 have hz := h6.size
 refine ⟨(h1.far hg (hr _ (by omega))).farC (by show w.heap.size ≠ w.heap.size + 1 + 1; omega) _, (h2.far hg (hr _ (by omega))).farC (by show w.heap.size + 1 ≠ w.heap.size + 1 + 1; omega) _, (h3.far hg (hr _ (by omega))).set1 _, (h4.far hg (hr _ (by omega))).farC (by show bm ≠ w.heap.size + 1 + 1; omega) _, ?_, (h6.grown hg hz (fun q e => by have := h5.base_le q e; omega)).setCell (by show w.heap.size ≤ w.heap.size + 1 + 1; omega) _, by rw [World.size_setCell]; exact Nat.le_trans h7 hg.size, h8, h9⟩
 exact ho.kept (row := some (w.heap.size + 1 + 1)) (grownBy_setCell' W' (w.heap.size + 1 + 1) v') (fun g hg2 e => by
  have h1 := ho.base_le g hg2
  have h2 : w.heap.size + 1 + 1 = g := Option.some.inj e
  omega)
theorem bx_cells {W : World} {b : Nat} {u : Value} {cs : List Value} (h : Bx W b (u :: cs)) {o : Obj} (ho : W.heap[b]? = some o) (hc : o.isCells = false) : False := by
 have h0 := h.1 0 u rfl
 simp only [World.cell?, ho] at h0
 cases o <;> simp_all [Obj.isCells]
theorem NtI.other (h : NtI w p l s B b bm base xs v W) {row : Option Nat} (hg : W.grownBy W' row) (hr : ∀ r, row = some r → w.heap.size ≤ r ∧ ∃ o, W.heap[r]? = some o ∧ o.isCells = false) : NtI w p l s B b bm base xs v W' := by
 obtain ⟨h1, h2, h3, h4, h5, h6, h7, h8, h9⟩ := h
 refine ⟨h1.far hg (fun e => ?_), h2.far hg (fun e => ?_), h3.far hg (fun e => ?_), h4.far hg (fun e => ?_), h5.kept hg (fun g hgo e => ?_), h6.grown hg h6.size (fun k e => (hr k e).1), Nat.le_trans h7 hg.size, h8, h9⟩
 ·obtain ⟨_, o, ho, hc⟩ := hr _ e; exact bx_cells h1 ho hc
 ·obtain ⟨_, o, ho, hc⟩ := hr _ e; exact bx_cells h2 ho hc
 ·obtain ⟨_, o, ho, hc⟩ := hr _ e; exact bx_cells h3 ho hc
 ·obtain ⟨_, o, ho, hc⟩ := hr _ e; exact bx_cells h4 ho hc
 ·obtain ⟨_, o, ho, hc⟩ := hr _ e
  rcases h5.2 with ⟨rfl, _⟩ | ⟨g', cap, cur, rfl, k2, k3, k4⟩
  ·simp [Value.ownBlock] at hgo
  ·have e2 : g' = g := Option.some.inj hgo
   subst e2
   rw [k3] at ho
   cases ho
   simp [Obj.isCells] at hc
theorem NtI.lt (h : NtI w p l s B b bm base xs v W) : w.heap.size + 1 + 1 < W.heap.size ∧ bm < W.heap.size := ⟨h.2.2.1.2.2, h.2.2.2.1.2.2⟩
end
set_option maxRecDepth 100000 in
set_option maxHeartbeats 8000000 in
theorem Network_fails {P : Nat → Prop} (p : Pg) (s : Sl) (l : List At) (B : Option Addr) (b : Nat) (w : World) (hr : Rqs w P s p.reqs) (hi : p.mean.i64) (hx : Reads w w.heap.size B 5 At.enc l) (hll : l.length ≤ 100000) (h0 : askedE p l ≠ 0) :
 Calls Tryz.prog 46 #[pgV p s, .slice B l.length b] w fun e w' => e = .returned (.tuple #[.int .i64 0, .slice none 0 0, .int .i64 (askedE p l)]) ∧ Below w.heap.size w w' := by
 have hn := hr.len
 have HX := Lib.hid hx
 have hC := Lib.hid (fun W (h : Below w.heap.size w W) => dgCheck_any p s W (hr.step h) hi)
 have hS := Lib.hid (fun W h => Sums_any l B b W h (by omega))
 clear hx
 obtain ⟨E, hE⟩ : ∃ E, E = askedE p l := ⟨_, rfl⟩
 rw [← hE] at h0 ⊢
 obtain ⟨S1, S2, S3, hS3⟩ : ∃ a b c, sumsA l = (a, b, c) := ⟨_, _, _, rfl⟩
 rw [hS3] at hS
 unfold askedE at hE
 rw [hS3] at hE
 clear hS3
 obtain ⟨C, hCk⟩ : ∃ C, C = checkP p := ⟨_, rfl⟩
 rw [← hCk] at hC hE
 clear hCk
 unfold pgV at hC ⊢
 simp only at hE hS
 have e1 : (E == 0) = false := by simpa using h0
 have e2 : (E != 0) = true := by simpa using h0
 obtain ⟨A, n0, c0⟩ := s
 simp only at hn
 subst hn
 clear hr
 by_cases hc0 : C = 0
 ·rw [if_pos hc0] at hE
  subst hE
  subst hc0
  go_enter Tryz.func46, Tryz.ntmps46
  go_wp2_with fail
  obtain ⟨W1, hW1⟩ : ∃ X, X = ((w.alloc (.cells #[.string p.nm, .int .i64 p.number, .int .i64 p.uses, .int .i64 p.earn, .int .i64 p.mean.num, .int .i64 p.mean.den, .slice A p.reqs.length c0] 44)).alloc (.cells #[.slice B l.length b] 47)).alloc (.cells #[.slice none 0 0] 112) := ⟨_, rfl⟩
  have q1 : Bx W1 w.heap.size (pgC p ⟨A, p.reqs.length, c0⟩) := by rw [hW1]; exact ((Bx.new w _ _).alloc _).alloc _
  have q2 : Bx W1 (w.heap.size + 1) [.slice B l.length b] := by rw [hW1]; exact (Bx.at_ _ _ _ _ (by simp)).alloc _
  have q3 : Bx W1 (w.heap.size + 1 + 1) [.slice none 0 0] := by rw [hW1]; exact Bx.at_ _ _ _ _ (by simp)
  have q4 : Below w.heap.size w W1 := by rw [hW1]; exact (((Below.refl _ _).alloc (Nat.le_refl _) _).alloc (by simp) _).alloc (by simp; omega) _
  rw [← hW1]
  have HP := Lib.hid q1
  have HL := Lib.hid q2
  have HE := Lib.hid q3
  have HB := Lib.hid q4
  clear hW1 q1 q2 q3 q4
  refine (hC.out _ HB.out).mono ?_
  rintro e w2 ⟨rfl, hb2⟩
  have HP := Lib.hid (HP.out.step hb2)
  have HL := Lib.hid (HL.out.step hb2)
  have HE := Lib.hid (HE.out.step hb2)
  have HB := Lib.hid (HB.out.trans (hb2.mono HB.out.size))
  clear hb2
  have l0 := HL.out.1 0 _ rfl
  have lz := HL.out.2.2
  go_wp2_with fail
  refine (hS.out _ ((HX.out.below HB.out).more HB.out.size)).mono ?_
  rintro e w3 ⟨rfl, hb3⟩
  have HP := Lib.hid (HP.out.step hb3)
  have HL := Lib.hid (HL.out.step hb3)
  have HE := Lib.hid (HE.out.step hb3)
  have HB := Lib.hid (HB.out.trans (hb3.mono HB.out.size))
  clear hb3 l0 lz
  have m0 := HE.out.1 0 _ rfl
  have mf := HE.out.2.1 0
  have mz := HE.out.2.2
  go_wp2_with fail
  obtain ⟨W5, hW5⟩ : ∃ W5, W5 = w3.setCell ⟨w.heap.size + 1 + 1, 0, none⟩ (.slice none 0 0) := ⟨_, rfl⟩
  have q1 : W5.cell? ⟨w.heap.size + 1 + 1, 0, none⟩ = some (.slice none 0 0) := by rw [hW5]; exact set_at _ _ _ _ m0
  have hB5 : Below w.heap.size w W5 := by rw [hW5]; exact HB.out.setCell (by simp; omega) _
  rw [← hW5]
  exact bodyPost_ret (v := .tuple #[.int .i64 0, .slice none 0 0, .int .i64 E]) (by simp [results, Tryz.results46, go_sem, q1]) rfl ⟨rfl, hB5⟩
 ·rw [if_neg hc0] at hE
  subst hE
  clear h0 hc0
  go_enter Tryz.func46, Tryz.ntmps46
  go_wp2_with fail
  obtain ⟨W1, hW1⟩ : ∃ X, X = ((w.alloc (.cells #[.string p.nm, .int .i64 p.number, .int .i64 p.uses, .int .i64 p.earn, .int .i64 p.mean.num, .int .i64 p.mean.den, .slice A p.reqs.length c0] 44)).alloc (.cells #[.slice B l.length b] 47)).alloc (.cells #[.slice none 0 0] 112) := ⟨_, rfl⟩
  have q1 : Bx W1 w.heap.size (pgC p ⟨A, p.reqs.length, c0⟩) := by rw [hW1]; exact ((Bx.new w _ _).alloc _).alloc _
  have q2 : Bx W1 (w.heap.size + 1) [.slice B l.length b] := by rw [hW1]; exact (Bx.at_ _ _ _ _ (by simp)).alloc _
  have q3 : Bx W1 (w.heap.size + 1 + 1) [.slice none 0 0] := by rw [hW1]; exact Bx.at_ _ _ _ _ (by simp)
  have q4 : Below w.heap.size w W1 := by rw [hW1]; exact (((Below.refl _ _).alloc (Nat.le_refl _) _).alloc (by simp) _).alloc (by simp; omega) _
  rw [← hW1]
  have HP := Lib.hid q1
  have HL := Lib.hid q2
  have HE := Lib.hid q3
  have HB := Lib.hid q4
  clear hW1 q1 q2 q3 q4
  refine (hC.out _ HB.out).mono ?_
  rintro e w2 ⟨rfl, hb2⟩
  have HP := Lib.hid (HP.out.step hb2)
  have HL := Lib.hid (HL.out.step hb2)
  have HE := Lib.hid (HE.out.step hb2)
  have HB := Lib.hid (HB.out.trans (hb2.mono HB.out.size))
  clear hb2
  have m0 := HE.out.1 0 _ rfl
  have mf := HE.out.2.1 0
  have mz := HE.out.2.2
  go_wp2_with fail
  obtain ⟨W5, hW5⟩ : ∃ W5, W5 = w2.setCell ⟨w.heap.size + 1 + 1, 0, none⟩ (.slice none 0 0) := ⟨_, rfl⟩
  have q1 : W5.cell? ⟨w.heap.size + 1 + 1, 0, none⟩ = some (.slice none 0 0) := by rw [hW5]; exact set_at _ _ _ _ m0
  have hB5 : Below w.heap.size w W5 := by rw [hW5]; exact HB.out.setCell (by simp; omega) _
  rw [← hW5]
  exact bodyPost_ret (v := .tuple #[.int .i64 0, .slice none 0 0, .int .i64 E]) (by simp [results, Tryz.results46, go_sem, q1]) rfl ⟨rfl, hB5⟩
set_option maxRecDepth 100000 in
set_option maxHeartbeats 8000000 in
theorem Network_any {P : Nat → Prop} (p : Pg) (s : Sl) (l : List At) (B : Option Addr) (b : Nat) (w : World) (hr : Rqs w P s p.reqs) (hi : p.mean.i64) (hla : SlR w P 5 At.enc ⟨B, l.length, b⟩ l) (hll : l.length ≤ 100000) (h0 : askedE p l = 0) :
 Calls Tryz.prog 46 #[pgV p s, .slice B l.length b] w fun e w' => (∃ (D : Option Addr) (d : Nat), e = .returned (.tuple #[.int .i64 (1 + (l.length : Int) + (p.reqs.length : Int) + 1), .slice D (netL p l).length d, .int .i64 0]) ∧ SlR w' (fun b => w.heap.size ≤ b) 3 Fl.Ed.enc ⟨D, (netL p l).length, d⟩ (netL p l)) ∧ Below w.heap.size w w' := by
 have hn := hr.len
 have HX := Lib.hid hla.reads
 have HLA := Lib.hid hla
 have HR := Lib.hid hr
 have hC := Lib.hid (fun W (h : Below w.heap.size w W) => dgCheck_any p s W (hr.step h) hi)
 have hS := Lib.hid (fun W h => Sums_any l B b W h (by omega))
 clear hla
 obtain ⟨hgd, hga⟩ := asked_zero h0
 obtain ⟨hcr, hlr, hu1, hu4⟩ := good_credits hgd
 have HCR := Lib.hid hcr
 have HGA := Lib.hid hga
 obtain ⟨S1, S2, S3, hS3⟩ : ∃ a b c, sumsA l = (a, b, c) := ⟨_, _, _, rfl⟩
 rw [hS3] at hS
 unfold askedE at h0
 rw [hS3] at h0
 clear hS3
 obtain ⟨C, hCk⟩ : ∃ C, C = checkP p := ⟨_, rfl⟩
 rw [← hCk] at hC h0
 obtain rfl : C = 0 := by rw [hCk]; unfold checkP; rw [hgd]; rfl
 rw [if_pos rfl] at h0
 simp only at h0 hS
 subst h0
 clear hCk hcr hga
 unfold pgV at hC ⊢
 obtain ⟨A, n0, c0⟩ := s
 simp only at hn
 subst hn
 clear hr
 refine (callsIn_wide (n := 6)).1 ?_
 refine callsIn_of_wp_marks Tryz.func46 rfl trivial ?_ rfl
 simp only [Tryz.ntmps46, List.size_toArray, List.length_cons, List.length_nil, Nat.reduceAdd, Nat.reduceSub, Array.replicate_succ, Array.replicate_zero, List.push_toArray, List.append_toArray, List.nil_append, List.cons_append]
 refine wpIn_wide.2 ?_
 go_wp2_with fail
 obtain ⟨W1, hW1⟩ : ∃ X, X = ((w.alloc (.cells #[.string p.nm, .int .i64 p.number, .int .i64 p.uses, .int .i64 p.earn, .int .i64 p.mean.num, .int .i64 p.mean.den, .slice A p.reqs.length c0] 44)).alloc (.cells #[.slice B l.length b] 47)).alloc (.cells #[.slice none 0 0] 112) := ⟨_, rfl⟩
 have q1 : Bx W1 w.heap.size (pgC p ⟨A, p.reqs.length, c0⟩) := by rw [hW1]; exact ((Bx.new w _ _).alloc _).alloc _
 have q2 : Bx W1 (w.heap.size + 1) [.slice B l.length b] := by rw [hW1]; exact (Bx.at_ _ _ _ _ (by simp)).alloc _
 have q3 : Bx W1 (w.heap.size + 1 + 1) [.slice none 0 0] := by rw [hW1]; exact Bx.at_ _ _ _ _ (by simp)
 have q4 : Below w.heap.size w W1 := by rw [hW1]; exact (((Below.refl _ _).alloc (Nat.le_refl _) _).alloc (by simp) _).alloc (by simp; omega) _
 rw [← hW1]
 have HP := Lib.hid q1
 have HL := Lib.hid q2
 have HE := Lib.hid q3
 have HB := Lib.hid q4
 clear hW1 q1 q2 q3 q4
 refine (hC.out _ HB.out).mono ?_
 rintro e w2 ⟨rfl, hb2⟩
 have HP := Lib.hid (HP.out.step hb2)
 have HL := Lib.hid (HL.out.step hb2)
 have HE := Lib.hid (HE.out.step hb2)
 have HB := Lib.hid (HB.out.trans (hb2.mono HB.out.size))
 clear hb2
 have l0 := HL.out.1 0 _ rfl
 have lz := HL.out.2.2
 go_wp2_with fail
 refine (hS.out _ ((HX.out.below HB.out).more HB.out.size)).mono ?_
 rintro e w3 ⟨rfl, hb3⟩
 have HP := Lib.hid (HP.out.step hb3)
 have HL := Lib.hid (HL.out.step hb3)
 have HE := Lib.hid (HE.out.step hb3)
 have HB := Lib.hid (HB.out.trans (hb3.mono HB.out.size))
 clear hb3 l0 lz
 have l0 := HL.out.1 0 _ rfl
 have lz := HL.out.2.2
 have p6 := HP.out.1 6 _ rfl
 have pz := HP.out.2.2
 go_wp2_with fail
 obtain ⟨W4, hW4⟩ : ∃ X, X = w3.alloc (.cells #[.int .i64 (1 + (l.length : Int))] 3) := ⟨_, rfl⟩
 have h4 : Below w3.heap.size w3 W4 := by rw [hW4]; exact (Below.refl _ _).alloc (Nat.le_refl _) _
 have hz4 : W4.heap.size = w3.heap.size + 1 := by rw [hW4]; simp
 have HN0 : Hid (NtI w p l ⟨A, p.reqs.length, c0⟩ B b w3.heap.size (w3.heap.size + 1) (net1 p l 0) (.slice none 0 0) W4) := Lib.hid (by
  refine ⟨HP.out.step h4, HL.out.step h4, HE.out.step h4, ?_, Owns.nil_ _ _ _ _ _, HB.out.trans (h4.mono HB.out.size), by omega, HE.out.2.2, Nat.lt_succ_self _⟩
  rw [hW4]
  exact Bx.new ..)
 obtain ⟨bm, hbm⟩ : ∃ x, x = w3.heap.size := ⟨_, rfl⟩
 rw [← hW4]
 rw [← hbm] at HN0 ⊢
 have hwm : w.heap.size + 1 + 1 < bm := by have := HE.out.2.2; omega
 obtain ⟨i0, hi0, hz0, hz1, hz2⟩ := info_parts Tryz.infoEd
 have HI0 := Lib.hid hi0
 clear hW4 h4 hz4 HP HL HE HB l0 lz p6 pz hi0 hbm
 go_loopw [39] (fun i W => ∃ (k : Nat) (v : Value), k ≤ l.length ∧ i = .int .i64 k ∧ NtI w p l ⟨A, p.reqs.length, c0⟩ B b bm (bm + 1) (net1 p l k) v W) (fun i _ => l.length - (intOf i).toNat)
 case atStart => exact ⟨0, _, Nat.zero_le _, rfl, HN0.out⟩
 case round =>
  clear HN0
  obtain ⟨k, v, hk, rfl, hN⟩ := hrel
  have HN := Lib.hid hN
  by_cases hlt : k < l.length
  ·obtain ⟨n1, n2, n3, n4, n5, n6, n7, n8, n9⟩ := hN
   obtain ⟨bA, oA, a, hAe, hbA, hxa, hca⟩ := (HLA.out.step n6).reads.at_ hlt
   simp only at hAe
   subst hAe
   have hgood := HGA.out a (List.mem_of_getElem? hxa)
   obtain ⟨ac, am, ag, ap, ak⟩ := a
   have a0 := hca 0 _ rfl
   have a1 := hca 1 _ rfl
   have a2 := hca 2 _ rfl
   have a3 := hca 3 _ rfl
   have a4 := hca 4 _ rfl
   simp only [Nat.add_zero] at a0
   obtain ⟨_, _, hk0, hk1, _, _⟩ := good_at hgood
   try simp only at hk0 hk1
   obtain ⟨hp0, hp1⟩ := mul_bd hk0 hk1 hu1 hu4
   have HED : Hid (net1 p l (k + 1) = net1 p l k ++ [⟨0, 1 + (k : Int), ak * p.uses⟩]) := Lib.hid (by unfold net1; rw [map_range_snoc]; unfold edA; rw [show l.getD k default = _ from getD_some hxa])
   have hnl : (net1 p l k).length = k := by unfold net1; simp
   have HNL := Lib.hid hnl
   have m0 := n3.1 0 _ rfl
   have mf := n3.2.1 0
   have mz := n3.2.2
   have p2 := n1.1 2 _ rfl
   have pz := n1.2.2
   clear hca hxa hgood hnl n1 n2 n3 n4 n5 n6 n7 n8 n9
   go_wp2_with (at_builtin; refine stop_mk ?_)
   have hN5 := (HN.out.step (W' := (wr.alloc (.cells #[.int .i64 ac, .int .i64 am, .int .i64 ag, .int .i64 ap, .int .i64 ak] 69)).alloc (.cells #[.int .i64 0, .int .i64 (1 + (k : Int)), .int .i64 (ak * p.uses)] 166)) (((Below.refl _ _).alloc (Nat.le_refl _) _).alloc (by simp) _))
   have HN5 := Lib.hid hN5
   have hb5 : bm + 1 ≤ ((wr.alloc (.cells #[.int .i64 ac, .int .i64 am, .int .i64 ag, .int .i64 ap, .int .i64 ak] 69)).alloc (.cells #[.int .i64 0, .int .i64 (1 + (k : Int)), .int .i64 (ak * p.uses)] 166)).heap.size := hN5.2.2.2.2.2.2.1
   clear hN5
   refine stop_out (wpList_append_reads (en := Fl.Ed.enc) (sz := 3) _ rfl _ _ _ rfl edE_len edE_one (bm + 1) 166 i0 _ 24 Tryz.underlying112 HI0.out hz0 hz1 hz2 rfl (by omega) _ (net1 p l k) rfl HN5.out.2.2.2.2.1 (wr.heap.size + 1 + 1) (some ⟨wr.heap.size + 1, 0, none⟩) 1 [⟨0, 1 + (k : Int), ak * p.uses⟩] rfl (reads_one (wr.alloc (.cells #[.int .i64 ac, .int .i64 am, .int .i64 ag, .int .i64 ap, .int .i64 ak] 69)) Fl.Ed.enc ⟨0, 1 + (k : Int), ak * p.uses⟩ _ _ rfl 3 (wr.heap.size + 1) (by simp)) (fun h => by cases h) (by have := HNL.out; simp [maxLen]; omega) (by have := HNL.out; simp; omega) hb5 ?_)
   intro v2 w6 ho2 hg2 _ _
   obtain ⟨A2, c2, rfl, _, _⟩ := ho2.shape
   have HN6 := Lib.hid (HN5.out.app (ys := net1 p l (k + 1)) (v' := .slice A2 (net1 p l k ++ [(⟨0, 1 + (k : Int), ak * p.uses⟩ : Fl.Ed)]).length c2) (W' := w6) (by rw [HED.out]; exact ho2) hg2)
   have hr6 : ∀ g, g < bm + 1 → v.ownBlock ≠ some g := fun g hl e => by have := HN5.out.2.2.2.2.1.base_le g e; omega
   have n3 := HN5.out.2.2.1.far hg2 (hr6 _ (by omega))
   have m0 := n3.1 0 _ rfl
   have mf := n3.2.1 0
   have mz := n3.2.2
   clear ho2 hg2 hr6 n3 HN5 hb5 HN p2 pz a0 a1 a2 a3 a4
   go_wp2_with fail
   go_roundw
   case rel => exact ⟨k + 1, _, by omega, by go_num, by have h := HN6.out; rw [List.length_append] at h; exact h⟩
   case measure => simp [intOf]; omega
  ·obtain rfl : l.length = k := by omega
   obtain ⟨n1, n2, n3, n4, n5, n6, n7, n8, n9⟩ := hN
   have l0 := n2.1 0 _ rfl
   have lz := n2.2.2
   have p0 := n1.1 0 _ rfl
   have p1 := n1.1 1 _ rfl
   have p2 := n1.1 2 _ rfl
   have p3 := n1.1 3 _ rfl
   have p4 := n1.1 4 _ rfl
   have p5 := n1.1 5 _ rfl
   have p6 := n1.1 6 _ rfl
   have pz := n1.2.2
   have hqs0 : bm + 1 ≤ wr.heap.size := n7
   clear n1 n2 n3 n4 n5 n6 n7 n8 n9 hlt
   have hPA := Lib.hid (pairs_any p ⟨A, p.reqs.length, c0⟩ B l.length b wr)
   unfold pgV pgC at hPA
   go_wp2_with fail
   refine hPA.out.mono ?_
   rintro e w5 ⟨rfl, hw5⟩
   have h5 : Below wr.heap.size wr w5 := by rw [hw5]; exact ((Below.refl _ _).alloc (Nat.le_refl _) _).alloc (by simp) _
   have hz5 : w5.heap.size = wr.heap.size + 2 := by rw [hw5]; simp
   have HN5 := Lib.hid (HN.out.step h5)
   have HOL := Lib.hid (show ∀ g, v.ownBlock = some g → g < wr.heap.size from HN.out.2.2.2.2.1.lt)
   have HPI : Hid (PrI w5 (fun x => x < w.heap.size ∨ (x = wr.heap.size ∨ x = wr.heap.size + 1)) p l ⟨A, p.reqs.length, c0⟩ B b (wr.heap.size + 1) wr.heap.size) := Lib.hid (by
    have hb := HN5.out.2.2.2.2.2.1
    refine ⟨?_, ?_, ((HR.out.small (Q := fun x => x < w.heap.size) (fun _ h => h)).step hb).mono (fun x h => .inl h), ((HLA.out.small (Q := fun x => x < w.heap.size) (fun _ h => h)).step hb).mono (fun x h => .inl h), .inr (.inr rfl), .inr (.inl rfl)⟩
    ·rw [hw5]; exact Bx.at_ _ _ _ _ (by simp)
    ·rw [hw5]; exact (Bx.new wr _ _).alloc _)
   clear hw5 h5 HN l0 lz p0 p1 p2 p3 p4 p5 p6 pz hPA
   obtain ⟨q, hq⟩ : ∃ q, q = wr.heap.size := ⟨_, rfl⟩
   rw [← hq] at HPI HOL hz5 ⊢
   have hqs : bm + 1 ≤ q := by rw [hq]; exact hqs0
   clear hq hqs0
   go_wp2_with fail
   refine (wpIn_wide (n := 5)).1 ?_
   refine wpIn_seqT (α := Nat × Nat) rfl (by decide) (gf := 90) (lb := #[.pointer (some ⟨q + 1, 0, none⟩), .pointer (some ⟨q, 0, none⟩)]) rfl trivial (enters_of Tryz.func90 (by kernel_rfl) rfl)
    (own := fun _ => False) (Kp := KeepT w5.heap.size 166 (fun x => x = w.heap.size + 1 + 1 ∨ (bm + 1 ≤ x ∧ x < q))) (fun X Y _ hb => KeepT.of_below hb) (fun _ _ _ h k => h.trans k) (fun X l o h1 h2 => KeepT.putObj X ⟨h1, h2⟩ o) (fun _ h => h.elim)
    (pairs_iter w5 4 p l ⟨A, p.reqs.length, c0⟩ B b (q + 1) q HPI.out hlr hll 166 (by decide) (fun x => x = w.heap.size + 1 + 1 ∨ (bm + 1 ≤ x ∧ x < q)) (fun x hp hf => by omega) (fun x hf => by omega) (fun x hp => by have := HN5.out.2.2.2.2.2.1.size; omega))
    (fun _ => rfl) (fun pre W => ∃ v, NtI w p l ⟨A, p.reqs.length, c0⟩ B b bm (bm + 1) (net1 p l l.length ++ net2 l pre) v W ∧ ∀ g, v.ownBlock = some g → g < q ∨ q + 2 ≤ g) (fun cc _ _ => False) ?own ?ownx (fun _ _ _ _ _ h => h.elim) (fun _ _ _ _ _ _ h => h.elim) ⟨_, by simpa [net2] using HN5.out, fun g hg => .inl (HOL.out g hg)⟩
    ?G ?assign ?body ?done ?stop
   case own =>
    rintro pre W W' row ⟨v, hN, hv⟩ hg hr
    exact ⟨v, hN.other hg (fun r e => by have := hr r e; exact ⟨by omega, this.2⟩), hv⟩
   case ownx => exact fun cc pre W W' row h hg hr => h
   case assign =>
    intro l pre x W K hi hpr hz hK
    gi_wp2
    exact hK _ (KeepsOthers.refl _) (Below.refl _ _)
   case body =>
    rintro l' pre x W ⟨v, hN, hvq⟩ hpr hz
    have HVQ := Lib.hid hvq
    clear hvq
    have HN := Lib.hid hN
    obtain ⟨t, ht⟩ := hpr
    obtain ⟨hxi, hxk⟩ := pairs_mem (p := p) (l := l) (x := x) (by rw [← ht]; simp)
    have hpl : pre.length ≤ 6400000 := by
     have h1 := congrArg List.length ht
     have h2 := pairs_len p l hlr hll
     simp at h1
     omega
    clear ht
    obtain ⟨i, k⟩ := x
    simp only at hxi hxk
    obtain ⟨n1, n2, n3, n4, n5, n6, n7, n8, n9⟩ := hN
    obtain ⟨bA, oA, a, hAe, hbA, hxa, hca⟩ := HX.out.at_ hxi
    subst hAe
    obtain ⟨ac, am, ag, ap, ak⟩ := a
    have a4 := (n6.cell (p := ⟨bA, oA + i * 5 + 4, none⟩) hbA).trans (hca 4 _ rfl)
    have HED : Hid (net1 p l l.length ++ net2 l (pre ++ [(i, k)]) = (net1 p l l.length ++ net2 l pre) ++ [⟨1 + (i : Int), 1 + (l.length : Int) + (k : Int), ak⟩]) := Lib.hid (by
     unfold net2
     rw [List.map_append, List.append_assoc]
     unfold edP
     simp only [List.map_cons, List.map_nil]
     rw [show l.getD i default = _ from getD_some hxa])
    obtain ⟨es, hes⟩ : ∃ es, es = net1 p l l.length ++ net2 l pre := ⟨_, rfl⟩
    rw [← hes] at HED HN
    have hel : es.length ≤ 6500000 := by rw [hes]; unfold net1 net2; simp; omega
    have HEL := Lib.hid hel
    have m0 := n3.1 0 _ rfl
    have mf := n3.2.1 0
    have mz := n3.2.2
    have c0' := n4.1 0 _ rfl
    have cz := n4.2.2
    have l0 := n2.1 0 _ rfl
    have lz := n2.2.2
    clear hca hxa n1 n2 n3 n4 n5 n6 n7 n8 n9 hes hel hpl
    gi_wp2
    have hw1 : IntKind.i64.wrap (1 + (i : Int)) = 1 + (i : Int) := by rw [IntKind.wrap_i64]; omega
    have hw2 : IntKind.i64.wrap (1 + (l.length : Int) + (k : Int)) = 1 + (l.length : Int) + (k : Int) := by rw [IntKind.wrap_i64]; omega
    have SSS := Lib.hid (show ∀ W', Below (bm + 1) W W' → W'.cell? ⟨bm, 0, none⟩ = some (.int .i64 (1 + (l.length : Int))) ∧ W'.cell? ⟨w.heap.size + 1, 0, none⟩ = some (.slice (some ⟨bA, oA, none⟩) l.length b) ∧ W'.cell? ⟨bA, oA + i * 5 + 4, none⟩ = some (.int .i64 ak) from fun W' hb =>
     ⟨(hb.cell (p := ⟨bm, 0, none⟩) (by show bm < bm + 1; omega)).trans c0', (hb.cell (p := ⟨w.heap.size + 1, 0, none⟩) (by show w.heap.size + 1 < bm + 1; omega)).trans l0, (hb.cell (p := ⟨bA, oA + i * 5 + 4, none⟩) (by show bA < bm + 1; omega)).trans a4⟩)
    have SET := Lib.hid (show ∀ (W' : World) (u : Value), Below (bm + 1) W W' → (W'.setCell ⟨w.heap.size + 1 + 1, 0, none⟩ u).cell? ⟨bm, 0, none⟩ = some (.int .i64 (1 + (l.length : Int))) ∧ (W'.setCell ⟨w.heap.size + 1 + 1, 0, none⟩ u).cell? ⟨w.heap.size + 1, 0, none⟩ = some (.slice (some ⟨bA, oA, none⟩) l.length b) ∧ (W'.setCell ⟨w.heap.size + 1 + 1, 0, none⟩ u).cell? ⟨bA, oA + i * 5 + 4, none⟩ = some (.int .i64 ak) from fun W' u hb => by
     obtain ⟨s1, s2, s3⟩ := SSS.out W' hb
     refine ⟨(set_far _ _ _ _ (fun e => ?_)).trans s1, (set_far _ _ _ _ (fun e => ?_)).trans s2, (set_far _ _ _ _ (fun e => ?_)).trans s3⟩
     ·have e2 : w.heap.size + 1 + 1 = bm := congrArg Addr.block e
      omega
     ·have e2 : w.heap.size + 1 + 1 = w.heap.size + 1 := congrArg Addr.block e
      omega
     ·have e2 : w.heap.size + 1 + 1 = bA := congrArg Addr.block e
      omega)
    have BEL : Hid (Below (bm + 1) W ((W.alloc (.cells #[.int .i64 (1 + (i : Int)), .int .i64 (1 + (l.length : Int) + (k : Int)), .int .i64 ak] 166)).drew)) := Lib.hid ((Below.refl (bm + 1) W).alloc HN.out.2.2.2.2.2.2.1 _).drew
    have BSZ : Hid (bm + 1 ≤ (W.alloc (.cells #[.int .i64 (1 + (i : Int)), .int .i64 (1 + (l.length : Int) + (k : Int)), .int .i64 ak] 166)).drew.heap.size) := Lib.hid (Nat.le_trans HN.out.2.2.2.2.2.2.1 BEL.out.size)
    have hstp : Below W.heap.size W ((W.alloc (.cells #[.int .i64 (1 + (i : Int)), .int .i64 (1 + (l.length : Int) + (k : Int)), .int .i64 ak] 166)).drew) := ((Below.refl W.heap.size W).alloc (Nat.le_refl _) _).drew
    have HN2 := Lib.hid (HN.out.step hstp)
    have OWN : Hid (Owns ((W.alloc (.cells #[.int .i64 (1 + (i : Int)), .int .i64 (1 + (l.length : Int) + (k : Int)), .int .i64 ak] 166)).drew) (bm + 1) 166 3 Fl.Ed.enc v es) := Lib.hid HN2.out.2.2.2.2.1
    have ROW : Hid (Reads ((W.alloc (.cells #[.int .i64 (1 + (i : Int)), .int .i64 (1 + (l.length : Int) + (k : Int)), .int .i64 ak] 166)).drew) (W.heap.size + 1) (some ⟨W.heap.size, 0, none⟩) 3 Fl.Ed.enc [⟨1 + (i : Int), 1 + (l.length : Int) + (k : Int), ak⟩]) := Lib.hid (reads_one W Fl.Ed.enc ⟨1 + (i : Int), 1 + (l.length : Int) + (k : Int), ak⟩ _ _ rfl 3 W.heap.size rfl)
    have NEXT := Lib.hid (show ∀ (v2 : Value) (w6 : World), Owns w6 (bm + 1) 166 3 Fl.Ed.enc v2 (es ++ [⟨1 + (i : Int), 1 + (l.length : Int) + (k : Int), ak⟩]) → (W.alloc (.cells #[.int .i64 (1 + (i : Int)), .int .i64 (1 + (l.length : Int) + (k : Int)), .int .i64 ak] 166)).drew.grownBy w6 v.ownBlock → Bx w6 (w.heap.size + 1 + 1) [v] ∧ NtI w p l ⟨A, p.reqs.length, c0⟩ (some ⟨bA, oA, none⟩) b bm (bm + 1) (es ++ [⟨1 + (i : Int), 1 + (l.length : Int) + (k : Int), ak⟩]) v2 (w6.setCell ⟨w.heap.size + 1 + 1, 0, none⟩ v2) from fun v2 w6 k1 k2 =>
     ⟨HN2.out.2.2.1.far k2 (fun e => by have := OWN.out.base_le _ e; omega), HN2.out.app k1 k2⟩)
    have KTO := Lib.hid (show ∀ w6 : World, (W.alloc (.cells #[.int .i64 (1 + (i : Int)), .int .i64 (1 + (l.length : Int) + (k : Int)), .int .i64 ak] 166)).drew.grownBy w6 v.ownBlock → KeepT w5.heap.size 166 (fun x => x = w.heap.size + 1 + 1 ∨ (bm + 1 ≤ x ∧ x < q)) W w6 ∧ KeepsOthers W w6 from fun w6 k2 => by
     refine ⟨((KeepT.refl _ _ _ W).below hstp).grown k2 (fun g hg => ?_), (KeepsOthers.of_below hstp).trans (keeps_grown k2 (fun g hg => OWN.out.isCells g hg))⟩
     rcases HVQ.out g hg with h | h
     ·exact .inl (.inr ⟨OWN.out.base_le g hg, h⟩)
     ·exact .inr ⟨by omega, by obtain ⟨cs, h, _⟩ := OWN.out.typed hg; exact ⟨cs, _, h⟩⟩)
    clear hstp
    refine region_round_held (S := fun W' => W'.cell? ⟨bm, 0, none⟩ = some (.int .i64 (1 + (l.length : Int))) ∧ W'.cell? ⟨w.heap.size + 1, 0, none⟩ = some (.slice (some ⟨bA, oA, none⟩) l.length b) ∧ W'.cell? ⟨bA, oA + i * 5 + 4, none⟩ = some (.int .i64 ak)) (by kernel_rfl) (by kernel_rfl) (fun ⟨a, w, h⟩ => h) ⟨c0', l0, a4⟩ (fun hHeld => ?_)
    refine wpAnyH_take (i := 1) (v := ?_) rfl (by kernel_rfl) (by kernel_rfl) (by kernel_rfl) (fun _ _ _ h => h) (Or.inl ⟨by rfl, ?_⟩) (by assumption) ?_
    rotate_left
    ·intro w hSw
     (try dsimp only at hSw)
     go_simp
     try with_reducible rfl
    simp only [Act.put, List.setIfInBounds_toArray, List.set_cons_zero, List.set_cons_succ]
    refine wpAnyH_take (i := 2) (v := ?_) rfl (by kernel_rfl) (by kernel_rfl) (by kernel_rfl) (fun _ _ _ h => h) (Or.inl ⟨by rfl, ?_⟩) (by assumption) ?_
    rotate_left
    ·intro w hSw
     (try dsimp only at hSw)
     go_simp
     try with_reducible rfl
    simp only [Act.put, List.setIfInBounds_toArray, List.set_cons_zero, List.set_cons_succ]
    refine wpAnyH_take (i := 3) (v := ?_) rfl (by kernel_rfl) (by kernel_rfl) (by kernel_rfl) (fun _ _ _ h => h) (Or.inl ⟨by rfl, ?_⟩) (by assumption) ?_
    rotate_left
    ·intro w hSw
     (try dsimp only at hSw)
     go_simp
     try with_reducible rfl
    simp only [Act.put, List.setIfInBounds_toArray, List.set_cons_zero, List.set_cons_succ]
    refine wpAnyH_take (i := 4) (v := ?_) rfl (by kernel_rfl) (by kernel_rfl) (by kernel_rfl) (fun _ _ _ h => h) (Or.inl ⟨by rfl, ?_⟩) (by assumption) ?_
    rotate_left
    ·intro w hSw
     (try dsimp only at hSw)
     go_simp
     try with_reducible rfl
    simp only [Act.put, List.setIfInBounds_toArray, List.set_cons_zero, List.set_cons_succ]
    refine wpAnyH_take (i := 5) (v := ?_) rfl (by kernel_rfl) (by kernel_rfl) (by kernel_rfl) (fun _ _ _ h => h) (Or.inl ⟨by rfl, ?_⟩) (by assumption) ?_
    rotate_left
    ·intro w hSw
     (try dsimp only at hSw)
     go_simp
     try with_reducible rfl
    simp only [Act.put, List.setIfInBounds_toArray, List.set_cons_zero, List.set_cons_succ]
    refine wpAnyH_take (i := 6) (v := ?_) rfl (by kernel_rfl) (by kernel_rfl) (by kernel_rfl) (fun _ _ _ h => h) (Or.inl ⟨by rfl, ?_⟩) (by assumption) ?_
    rotate_left
    ·intro w hSw
     (try dsimp only at hSw)
     go_simp
     try with_reducible rfl
    simp only [Act.put, List.setIfInBounds_toArray, List.set_cons_zero, List.set_cons_succ]
    refine wpAnyH_take (i := 7) (v := ?_) rfl (by kernel_rfl) (by kernel_rfl) (by kernel_rfl) (fun _ _ _ h => h) (Or.inl ⟨by rfl, ?_⟩) (by assumption) ?_
    rotate_left
    ·intro w hSw
     (try dsimp only at hSw)
     go_simp
     try with_reducible rfl
    simp only [Act.put, List.setIfInBounds_toArray, List.set_cons_zero, List.set_cons_succ]
    refine wpAnyH_take (i := 8) (v := ?_) rfl (by kernel_rfl) (by kernel_rfl) (by kernel_rfl) (fun _ _ _ h => h) (Or.inl ⟨by rfl, ?_⟩) (by assumption) ?_
    rotate_left
    ·intro w hSw
     (try dsimp only at hSw)
     go_simp
     try with_reducible rfl
    simp only [Act.put, List.setIfInBounds_toArray, List.set_cons_zero, List.set_cons_succ]
    refine wpAnyH_take (i := 9) (v := ?_) rfl (by kernel_rfl) (by kernel_rfl) (by kernel_rfl) (fun _ _ _ h => h) (Or.inl ⟨by rfl, ?_⟩) (by assumption) ?_
    rotate_left
    ·intro w hSw
     (try dsimp only at hSw)
     go_simp
     try with_reducible rfl
    simp only [Act.put, List.setIfInBounds_toArray, List.set_cons_zero, List.set_cons_succ]
    refine wpAnyH_take (i := 10) (v := ?_) rfl (by kernel_rfl) (by kernel_rfl) (by kernel_rfl) (fun _ _ _ h => h) (Or.inl ⟨by rfl, ?_⟩) (by assumption) ?_
    rotate_left
    ·intro w hSw
     (try dsimp only at hSw)
     go_simp
     try with_reducible rfl
    simp only [Act.put, List.setIfInBounds_toArray, List.set_cons_zero, List.set_cons_succ]
    refine wpAnyH_take (i := 11) (v := ?_) rfl (by kernel_rfl) (by kernel_rfl) (by kernel_rfl) (fun _ _ _ h => h) (Or.inl ⟨by rfl, ?_⟩) (by assumption) ?_
    rotate_left
    ·intro w hSw
     (try dsimp only at hSw)
     go_simp
     try with_reducible rfl
    simp only [Act.put, List.setIfInBounds_toArray, List.set_cons_zero, List.set_cons_succ]
    refine wpAnyH_ready (rs := [0, 12]) (by kernel_rfl) (by simp) ?_
    refine AllReadyH.cons rfl (fun K hK => ?_) ?_
    ·go_simp
     refine hK.out _ _ (by assumption) (fun hHeld => ?_)
     clear hK
     refine wpAnyH_ready (rs := [12]) (by kernel_rfl) (by simp) ?_
     refine AllReadyH.cons rfl (fun K hK => ?_) ?_
     ·go_simp
      refine hK.out _ _ (SSS.out _ BEL.out) (fun hHeld => ?_)
      clear hK
      refine wpAnyH_ready (rs := [13]) (by kernel_rfl) (by simp) ?_
      refine AllReadyH.cons rfl (fun K hK => ?_) ?_
      ·refine step_append_reads (en := Fl.Ed.enc) (sz := 3) (by rfl) _ _ _ (by rfl) edE_len edE_one (bm + 1) 166 i0 _ _ Tryz.underlying112 HI0.out hz0 hz1 hz2 rfl (by decide) v es (by rfl) OWN.out (W.heap.size + 1) (some ⟨W.heap.size, 0, none⟩) 1 [⟨1 + (i : Int), 1 + (l.length : Int) + (k : Int), ak⟩] (by rfl) ROW.out (fun h => by cases h) (by have := HEL.out; simp [maxLen]; omega) (by have := HEL.out; simp; omega) BSZ.out ?_
       intro v2 w6 k1 k2 k3
       obtain ⟨A2, c2, rfl, _, _⟩ := k1.shape
       have hb6 : Below (bm + 1) W w6 := BEL.out.grown k2 BSZ.out (fun q e => OWN.out.base_le q e)
       refine hK.out _ _ (SSS.out _ hb6) (fun hHeld => ?_)
       clear hK
       have hs6 := NEXT.out _ w6 k1 k2
       have hbe := hs6.1
       have m0 := hbe.1 0 _ rfl
       have mf := hbe.2.1 0
       have mz := hbe.2.2
       have HS6 := Lib.hid hs6.2
       have HB6 := Lib.hid hb6
       have HKT : Hid (KeepT w5.heap.size 166 (fun x => x = w.heap.size + 1 + 1 ∨ (bm + 1 ≤ x ∧ x < q)) W w6 ∧ KeepsOthers W w6) := Lib.hid (KTO.out w6 k2)
       have HV2 : Hid (∀ g, (Value.slice A2 (es ++ [(⟨1 + (i : Int), 1 + (l.length : Int) + (k : Int), ak⟩ : Fl.Ed)]).length c2).ownBlock = some g → g < q ∨ q + 2 ≤ g) := Lib.hid (fun g hg => by
        rcases k3 with k3 | k3
        ·exact HVQ.out g (by rw [← k3]; exact hg)
        ·rw [k3] at hg
         have e2 := Option.some.inj hg
         simp at e2
         omega)
       clear hs6 hbe hb6 k1 k2 k3
       refine wpAnyH_ready (rs := [14]) (by kernel_rfl) (by simp) ?_
       refine AllReadyH.cons rfl (fun K hK => ?_) ?_
       ·go_simp
        refine hK.out _ _ (SET.out _ _ HB6.out) (fun hHeld => ?_)
        clear hK
        refine wpAnyH_done (by kernel_rfl) ?_ _
        refine ⟨HKT.out.2.trans (KeepsOthers.setCell _ _ _), HKT.out.1.setCell (.inl rfl) _, .slice A2 (es.length + 1) c2, ?_, fun g hg => HV2.out g (by rw [List.length_append]; exact hg)⟩
        rw [HED.out]
        have h := HS6.out
        rw [List.length_append] at h
        exact h
       ·exact AllReadyH.nil
      ·exact AllReadyH.nil
     ·exact AllReadyH.nil
    refine AllReadyH.cons rfl (fun K hK => ?_) ?_
    ·go_simp
     refine hK.out _ _ (SSS.out _ BEL.out) (fun hHeld => ?_)
     clear hK
     have m0 := HN2.out.2.2.1.1 0 _ rfl
     refine wpAnyH_ready (rs := [0]) (by kernel_rfl) (by simp) ?_
     refine AllReadyH.cons rfl (fun K hK => ?_) ?_
     ·go_simp
      refine hK.out _ _ (by assumption) (fun hHeld => ?_)
      clear hK
      refine wpAnyH_ready (rs := [13]) (by kernel_rfl) (by simp) ?_
      refine AllReadyH.cons rfl (fun K hK => ?_) ?_
      ·refine step_append_reads (en := Fl.Ed.enc) (sz := 3) (by rfl) _ _ _ (by rfl) edE_len edE_one (bm + 1) 166 i0 _ _ Tryz.underlying112 HI0.out hz0 hz1 hz2 rfl (by decide) v es (by rfl) OWN.out (W.heap.size + 1) (some ⟨W.heap.size, 0, none⟩) 1 [⟨1 + (i : Int), 1 + (l.length : Int) + (k : Int), ak⟩] (by rfl) ROW.out (fun h => by cases h) (by have := HEL.out; simp [maxLen]; omega) (by have := HEL.out; simp; omega) BSZ.out ?_
       intro v2 w6 k1 k2 k3
       obtain ⟨A2, c2, rfl, _, _⟩ := k1.shape
       have hb6 : Below (bm + 1) W w6 := BEL.out.grown k2 BSZ.out (fun q e => OWN.out.base_le q e)
       refine hK.out _ _ (SSS.out _ hb6) (fun hHeld => ?_)
       clear hK
       have hs6 := NEXT.out _ w6 k1 k2
       have hbe := hs6.1
       have m0 := hbe.1 0 _ rfl
       have mf := hbe.2.1 0
       have mz := hbe.2.2
       have HS6 := Lib.hid hs6.2
       have HB6 := Lib.hid hb6
       have HKT : Hid (KeepT w5.heap.size 166 (fun x => x = w.heap.size + 1 + 1 ∨ (bm + 1 ≤ x ∧ x < q)) W w6 ∧ KeepsOthers W w6) := Lib.hid (KTO.out w6 k2)
       have HV2 : Hid (∀ g, (Value.slice A2 (es ++ [(⟨1 + (i : Int), 1 + (l.length : Int) + (k : Int), ak⟩ : Fl.Ed)]).length c2).ownBlock = some g → g < q ∨ q + 2 ≤ g) := Lib.hid (fun g hg => by
        rcases k3 with k3 | k3
        ·exact HVQ.out g (by rw [← k3]; exact hg)
        ·rw [k3] at hg
         have e2 := Option.some.inj hg
         simp at e2
         omega)
       clear hs6 hbe hb6 k1 k2 k3
       refine wpAnyH_ready (rs := [14]) (by kernel_rfl) (by simp) ?_
       refine AllReadyH.cons rfl (fun K hK => ?_) ?_
       ·go_simp
        refine hK.out _ _ (SET.out _ _ HB6.out) (fun hHeld => ?_)
        clear hK
        refine wpAnyH_done (by kernel_rfl) ?_ _
        refine ⟨HKT.out.2.trans (KeepsOthers.setCell _ _ _), HKT.out.1.setCell (.inl rfl) _, .slice A2 (es.length + 1) c2, ?_, fun g hg => HV2.out g (by rw [List.length_append]; exact hg)⟩
        rw [HED.out]
        have h := HS6.out
        rw [List.length_append] at h
        exact h
       ·exact AllReadyH.nil
      ·exact AllReadyH.nil
     ·exact AllReadyH.nil
    exact AllReadyH.nil
   case done =>
    rintro D' ys W hD rfl ⟨v, hN, _⟩ hK
    have HN := Lib.hid hN
    have HK := Lib.hid hK
    obtain ⟨n1, n2, n3, n4, n5, n6, n7, n8, n9⟩ := hN
    have p6 := n1.1 6 _ rfl
    have pz := n1.2.2
    clear n1 n2 n3 n4 n5 n6 n7 n8 n9 hK
    gi_wp2
    have hEL : (net1 p l l.length ++ net2 l (pairsL p l)).length ≤ 6500000 := by
     have := pairs_len p l hlr hll
     unfold net1 net2
     simp
     omega
    obtain ⟨es, hes⟩ : ∃ es, es = net1 p l l.length ++ net2 l (pairsL p l) := ⟨_, rfl⟩
    rw [← hes] at hEL HN
    have HES := Lib.hid hes
    have HEL := Lib.hid hEL
    have hWz : q + 2 ≤ W.heap.size := by have := HN.out.lt; have := (Array.getElem?_eq_some_iff.1 HK.out).1; omega
    clear hes hEL
    obtain ⟨W0, hW0⟩ : ∃ X, X = W := ⟨_, rfl⟩
    subst hW0
    go_wp2_with fail
    go_loopw [78] (fun i' W => ∃ (k : Nat) (v : Value), k ≤ p.reqs.length ∧ i' = .int .i64 k ∧ NtI w p l ⟨A, p.reqs.length, c0⟩ B b bm (bm + 1) (es ++ net3 p l k) v W ∧ KeepsOthers W0 W) (fun i' _ => p.reqs.length - (intOf i').toNat)
    case atStart => exact ⟨0, v, Nat.zero_le _, rfl, by simpa [net3] using HN.out, KeepsOthers.refl _⟩
    case round =>
     clear HN p6 pz
     obtain ⟨k, v, hk, rfl, hN, hko⟩ := hrel
     have HN := Lib.hid hN
     have HKO := Lib.hid hko
     clear hko
     by_cases hlt : k < p.reqs.length
     ·obtain ⟨n1, n2, n3, n4, n5, n6, n7, n8, n9⟩ := hN
      obtain ⟨bb, off, q, nm, ns, f, hAe, hbb, hqk, hqf, q0, q1, q2, q3, q4, q5⟩ := (HR.out.step n6).at_ hlt
      simp only at hAe
      subst hAe
      have hcq := HCR.out q (List.mem_of_getElem? hqk)
      have HED : Hid (es ++ net3 p l (k + 1) = (es ++ net3 p l k) ++ [⟨1 + (l.length : Int) + (k : Int), 1 + (l.length : Int) + (p.reqs.length : Int), q.credits⟩]) := Lib.hid (by unfold net3; rw [map_range_snoc, List.append_assoc]; unfold edR; rw [show p.reqs.getD k default = q from getD_some hqk])
      obtain ⟨fs, hfs⟩ : ∃ fs, fs = es ++ net3 p l k := ⟨_, rfl⟩
      rw [← hfs] at HED HN
      have hfl : fs.length ≤ 6510000 := by rw [hfs]; have := HEL.out; unfold net3; simp; omega
      have HFL := Lib.hid hfl
      have m0 := n3.1 0 _ rfl
      have mf := n3.2.1 0
      have mz := n3.2.2
      have b0 := n4.1 0 _ rfl
      have bz := n4.2.2
      clear hqf hqk hfs hfl n1 n2 n3 n4 n5 n6 n7 n8 n9
      go_wp2_with (at_builtin; refine stop_mk ?_)
      have hst : Below wr.heap.size wr ((wr.alloc (.cells #[.string nm, .int .i64 q.credits, .int .i64 q.grade, .bool q.home, .slice ns.a ns.n ns.c, .slice f.a f.n f.c] 67)).alloc (.cells #[.int .i64 (1 + (l.length : Int) + (k : Int)), .int .i64 (1 + (l.length : Int) + (p.reqs.length : Int)), .int .i64 q.credits] 166)) := ((Below.refl _ _).alloc (Nat.le_refl _) _).alloc (by simp) _
      have HN5 := Lib.hid (HN.out.step hst)
      have HKO5 := Lib.hid (HKO.out.trans (KeepsOthers.of_below hst))
      have hb5 : bm + 1 ≤ (((wr.alloc (.cells #[.string nm, .int .i64 q.credits, .int .i64 q.grade, .bool q.home, .slice ns.a ns.n ns.c, .slice f.a f.n f.c] 67)).alloc (.cells #[.int .i64 (1 + (l.length : Int) + (k : Int)), .int .i64 (1 + (l.length : Int) + (p.reqs.length : Int)), .int .i64 q.credits] 166))).heap.size := HN5.out.2.2.2.2.2.2.1
      clear hst
      refine stop_out (wpList_append_reads (en := Fl.Ed.enc) (sz := 3) _ rfl _ _ _ rfl edE_len edE_one (bm + 1) 166 i0 _ 24 Tryz.underlying112 HI0.out hz0 hz1 hz2 rfl (by omega) _ fs rfl HN5.out.2.2.2.2.1 (wr.heap.size + 1 + 1) (some ⟨wr.heap.size + 1, 0, none⟩) 1 [⟨1 + (l.length : Int) + (k : Int), 1 + (l.length : Int) + (p.reqs.length : Int), q.credits⟩] rfl (reads_one (wr.alloc (.cells #[.string nm, .int .i64 q.credits, .int .i64 q.grade, .bool q.home, .slice ns.a ns.n ns.c, .slice f.a f.n f.c] 67)) Fl.Ed.enc ⟨1 + (l.length : Int) + (k : Int), 1 + (l.length : Int) + (p.reqs.length : Int), q.credits⟩ _ _ rfl 3 (wr.heap.size + 1) (by simp)) (fun h => by cases h) (by have := HFL.out; simp [maxLen]; omega) (by have := HFL.out; simp; omega) hb5 ?_)
      intro v2 w6 ho2 hg2 _ _
      obtain ⟨A2, c2, rfl, _, _⟩ := ho2.shape
      have HN6 := Lib.hid (HN5.out.app (ys := es ++ net3 p l (k + 1)) (v' := .slice A2 (fs ++ [(⟨1 + (l.length : Int) + (k : Int), 1 + (l.length : Int) + (p.reqs.length : Int), q.credits⟩ : Fl.Ed)]).length c2) (W' := w6) (by rw [HED.out]; exact ho2) hg2)
      have HKO6 := Lib.hid (HKO5.out.trans (keeps_grown hg2 (fun g hg => HN5.out.2.2.2.2.1.isCells g hg)))
      have hr6 : ∀ g, g < bm + 1 → v.ownBlock ≠ some g := fun g hl e => by have := HN5.out.2.2.2.2.1.base_le g e; omega
      have n3 := HN5.out.2.2.1.far hg2 (hr6 _ (by omega))
      have m0 := n3.1 0 _ rfl
      have mf := n3.2.1 0
      have mz := n3.2.2
      clear ho2 hg2 hr6 n3 HN5 hb5 HN q0 q1 q2 q3 q4 q5 HKO5 HKO
      go_wp2_with fail
      go_roundw
      case rel => exact ⟨k + 1, _, by omega, by go_num, by have h := HN6.out; rw [List.length_append] at h; exact h, HKO6.out.trans (KeepsOthers.setCell _ _ _)⟩
      case measure => simp [intOf]; omega
     ·obtain rfl : p.reqs.length = k := by omega
      obtain ⟨n1, n2, n3, n4, n5, n6, n7, n8, n9⟩ := hN
      have m0 := n3.1 0 _ rfl
      have mf := n3.2.1 0
      have mz := n3.2.2
      obtain ⟨A2, c2, hve, hnil, _⟩ := n5.shape
      obtain ⟨n, hn⟩ : ∃ n, n = (es ++ net3 p l p.reqs.length).length := ⟨_, rfl⟩
      rw [← hn] at hve
      subst hve
      have HNN := Lib.hid hn
      clear hn
      clear n1 n2 n3 n4 n5 n6 n7 n8 n9
      have HNIL := Lib.hid hnil
      clear hnil
      go_upto_region 23 with fail
      go_region
      go_wp2_with fail
      have HNL : Hid (netL p l = es ++ net3 p l p.reqs.length) := Lib.hid (by unfold netL; rw [HES.out])
      obtain ⟨W5, hW5⟩ : ∃ W5, W5 = (wr.setCell ⟨w.heap.size + 1 + 1, 0, none⟩ (.slice A2 n c2)).drew := ⟨_, rfl⟩
      have q1 : W5.cell? ⟨w.heap.size + 1 + 1, 0, none⟩ = some (.slice A2 n c2) := by rw [hW5]; exact set_at _ _ _ _ m0
      have hK5 : W5.heap[D']? = some (.deferred (some [])) := by rw [hW5]; exact ((HKO.out.trans (KeepsOthers.setCell wr ⟨w.heap.size + 1 + 1, 0, none⟩ (.slice A2 n c2))).trans (KeepsOthers.drew _)).same D' _ HK.out rfl
      have hN5 : NtI w p l ⟨A, p.reqs.length, c0⟩ B b bm (bm + 1) (es ++ net3 p l p.reqs.length) (.slice A2 n c2) W5 := by
       rw [hW5]
       have h := HN.out.app (W' := wr) (v' := .slice A2 n c2) HN.out.2.2.2.2.1 ⟨rfl, rfl, rfl, Nat.le_refl _, fun _ _ _ => rfl⟩
       exact h.step (Below.refl _ _).drew
      rw [← hW5]
      have q2 := cell_kept q1 (grownBy_putObj' _ D' (.deferred none)) (fun r e => by cases e; exact ⟨_, hK5, rfl⟩)
      have hN6 := hN5.other (grownBy_putObj' W5 D' (.deferred none)) (fun r e => by cases e; exact ⟨by omega, _, hK5, rfl⟩)
      clear hW5
      refine ⟨by simp, .inl ⟨_, _, rfl, run_takeDeferred hK5, ?_⟩⟩
      refine ⟨.tuple #[.int .i64 (1 + (l.length : Int) + (p.reqs.length : Int) + 1), .slice A2 n c2, .int .i64 0], by simp [results, Tryz.results46, go_sem, q2], ?_, hN6.2.2.2.2.2.1⟩
      rw [HNL.out, ← HNN.out]
      refine ⟨A2, c2, rfl, ?_⟩
      exact (SlR.of_owns edE_len hN6.2.2.2.2.1).mono (fun x hx => by omega)
   case stop => exact fun D' cc pre W hD _ h hK => h.elim
end Go.Proofs.YtalmbigebjbaoaaGreatDoor
