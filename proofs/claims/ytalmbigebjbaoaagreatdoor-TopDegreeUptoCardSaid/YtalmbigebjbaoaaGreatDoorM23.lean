/- TopDegree, what its proof leans on: the texts AuE. -/
import Derived.Test.YtalmbigebjbaoaaGreatDoorM22
import Derived.BigRegion
namespace Go.Proofs.YtalmbigebjbaoaaGreatDoor
open Go.RowKit Go.Shelf
set_option linter.unusedSimpArgs false
set_option linter.unusedVariables false
attribute [local go_sem] Oper.semAt_some
set_option maxRecDepth 100000 in
set_option maxHeartbeats 8000000 in
theorem Audit_fails {P : Nat → Prop} (p : Pg) (s : Sl) (l : List At) (B : Option Addr) (b : Nat) (w : World) (hr : Rqs w P s p.reqs) (hi : p.mean.i64) (hx : Reads w w.heap.size B 5 At.enc l) (hll : l.length ≤ 100000) (h0 : askedE p l ≠ 0) :
 Calls Tryz.prog 17 #[pgV p s, .slice B l.length b] w fun e w' => e = .returned (.tuple #[.agg #[.slice none 0 0, .int .i64 0, .slice none 0 0], .int .i64 (askedE p l)]) ∧ Below w.heap.size w w' := by
 have hn := hr.len
 have hC := Lib.hid (fun W (h : Below w.heap.size w W) => Network_fails (P := P) p s l B b W (hr.step h) hi ((hx.below h).more h.size) hll h0)
 obtain ⟨A, n0, c0⟩ := s
 simp only at hn
 subst hn
 clear hr hx
 obtain ⟨E, hE⟩ : ∃ E, E = askedE p l := ⟨_, rfl⟩
 rw [← hE] at h0 hC ⊢
 clear hE
 unfold pgV at hC ⊢
 have hmf : ∀ (fn : Fn) (first cap : Array Value) (w : World), (Instr.makeFunc fn first cap).run Tryz.prog w = .ok (.func fn first cap) w := fun _ _ _ _ => rfl
 refine (callsIn_wide (n := 6)).1 ?_
 refine callsIn_of_wp_marks Tryz.func17 rfl trivial ?_ rfl
 simp only [Tryz.ntmps17, List.size_toArray, List.length_cons, List.length_nil, Nat.reduceAdd, Nat.reduceSub, Array.replicate_succ, Array.replicate_zero, List.push_toArray, List.append_toArray, List.nil_append, List.cons_append]
 refine wpIn_wide.2 ?_
 go_wp2_with fail
 obtain ⟨W1, hW1⟩ : ∃ X, X = ((w.alloc (.cells #[.string p.nm, .int .i64 p.number, .int .i64 p.uses, .int .i64 p.earn, .int .i64 p.mean.num, .int .i64 p.mean.den, .slice A p.reqs.length c0] 44)).alloc (.cells #[.slice none 0 0, .int .i64 0, .slice none 0 0] 35)).alloc (.cells #[.int .i64 0] 37) := ⟨_, rfl⟩
 have q1 : Bx W1 w.heap.size (pgC p ⟨A, p.reqs.length, c0⟩) := by rw [hW1]; exact ((Bx.new w _ _).alloc _).alloc _
 have q2 : Bx W1 (w.heap.size + 1) [.slice none 0 0, .int .i64 0, .slice none 0 0] := by rw [hW1]; exact (Bx.at_ _ _ _ _ (by simp)).alloc _
 have q3 : Bx W1 (w.heap.size + 1 + 1) [.int .i64 0] := by rw [hW1]; exact Bx.at_ _ _ _ _ (by simp)
 have q4 : Below w.heap.size w W1 := by rw [hW1]; exact (((Below.refl _ _).alloc (Nat.le_refl _) _).alloc (by simp) _).alloc (by simp; omega) _
 rw [← hW1]
 have HP := Lib.hid q1
 have HA := Lib.hid q2
 have HE := Lib.hid q3
 have HB := Lib.hid q4
 have HE1 : Hid (w.heap.size + 1 + 1 < W1.heap.size) := Lib.hid q3.2.2
 clear hW1 q1 q2 q3 q4
 refine (hC.out _ HB.out).mono ?_
 rintro e w2 ⟨rfl, hb2⟩
 have HA := Lib.hid (HA.out.step hb2)
 have HE := Lib.hid (HE.out.step hb2)
 have HB := Lib.hid (HB.out.trans (hb2.mono HB.out.size))
 clear hb2
 have m0 := HE.out.1 0 _ rfl
 have mf := HE.out.2.1 0
 have mz := HE.out.2.2
 go_upto_region 3 with fail
 obtain ⟨W3, hW3⟩ : ∃ X, X = w2.setCell ⟨w.heap.size + 1 + 1, 0, none⟩ (.int .i64 E) := ⟨_, rfl⟩
 have HE := Lib.hid (show Bx W3 (w.heap.size + 1 + 1) [.int .i64 E] by rw [hW3]; exact HE.out.set1 _)
 have HA := Lib.hid (show Bx W3 (w.heap.size + 1) [.slice none 0 0, .int .i64 0, .slice none 0 0] by rw [hW3]; exact HA.out.farC (by show w.heap.size + 1 ≠ w.heap.size + 1 + 1; omega) _)
 have HB := Lib.hid (show Below w.heap.size w W3 by rw [hW3]; exact HB.out.setCell (by show w.heap.size ≤ w.heap.size + 1 + 1; omega) _)
 rw [← hW3]
 clear hW3 m0 mf mz
 have m0 := HE.out.1 0 _ rfl
 have mf := HE.out.2.1 0
 have mz := HE.out.2.2
 go_wp2_with fail
 refine (try_no E h0 W3).mono ?_
 rintro e w3 ⟨rfl, rfl⟩
 refine ⟨by simp, .inr ⟨fun h => by simp [Fence.wide] at h, _, _, 45, #[.pointer (some ⟨w.heap.size + 1 + 1, 0, none⟩)], rfl, rfl, fun _ _ => trivial, (deferred_caught 5 _ E _ W3 HE.out).mono ?_⟩⟩
 rintro e u' w4 ⟨rfl, hu, hw4⟩
 have hE4 : Bx w4 (w.heap.size + 1 + 1) [.int .i64 E] := by rw [hw4]; exact (HE.out.set1 _).alloc _
 have hA4 : Bx w4 (w.heap.size + 1) [.slice none 0 0, .int .i64 0, .slice none 0 0] := by rw [hw4]; exact (HA.out.farC (by show w.heap.size + 1 ≠ w.heap.size + 1 + 1; omega) _).alloc _
 have hB4 : Below w.heap.size w w4 := by rw [hw4]; exact (HB.out.setCell (by show w.heap.size ≤ w.heap.size + 1 + 1; omega) _).alloc (by rw [World.size_setCell]; exact HB.out.size) _
 have k0 := hA4.1 0 _ rfl
 have k1 := hA4.1 1 _ rfl
 have k2 := hA4.1 2 _ rfl
 have k3 := hE4.1 0 _ rfl
 clear hw4
 show LeavesInM _ _ _ _ _ _ [] (settle u') w4
 rw [hu]
 exact ⟨.tuple #[.agg #[.slice none 0 0, .int .i64 0, .slice none 0 0], .int .i64 E], by simp [results, Tryz.results17, go_sem, k0, k1, k2, k3], rfl, hB4⟩
theorem Bx.setAt {W : World} {b : Nat} {cs : List Value} (h : Bx W b cs) {i : Nat} (hi : i < cs.length) (v : Value) : Bx (W.setCell ⟨b, i, none⟩ v) b (cs.set i v) :=
 ⟨fun j u e => by
   by_cases hj : i = j
   ·subst hj
    rw [List.getElem?_set_self hi] at e
    injection e with e
    subst e
    exact set_at _ _ _ _ (h.1 i _ (List.getElem?_eq_getElem hi))
   ·rw [List.getElem?_set_ne hj] at e
    exact (set_far _ _ _ _ (fun e2 => hj (congrArg Addr.off e2))).trans (h.1 j u e), fun j => by rw [World.frozen?_setCell]; exact h.2.1 j, by rw [World.size_setCell]; exact h.2.2⟩
theorem net_ok {p : Pg} {l : List At} (hg : goodP p = true) (hga : ∀ a ∈ l, a.good = true) (hfit : 2 + l.length + p.reqs.length ≤ 4096 ∧ (netL p l).length ≤ 65536) : Fl.okX (1 + (l.length : Int) + (p.reqs.length : Int) + 1) (netL p l) 0 (1 + (l.length : Int) + (p.reqs.length : Int)) = true := by
 obtain ⟨hcr, hlr, hu1, hu4⟩ := good_credits hg
 have hc : ∀ i, i < l.length → 0 ≤ (l.getD i default).credits ∧ (l.getD i default).credits ≤ 60 := fun i hi => by
  have h := good_at (hga _ (List.getElem_mem hi))
  rw [List.getD_eq_getElem?_getD, List.getElem?_eq_getElem hi]
  exact ⟨h.2.2.1, h.2.2.2.1⟩
 obtain ⟨hfit1, hfit2⟩ := hfit
 unfold Fl.okX Fl.okN Fl.okV
 simp only [Bool.and_eq_true, decide_eq_true_eq, List.all_eq_true]
 refine ⟨⟨⟨⟨by omega, by omega⟩, ?_⟩, fun e he => ?_⟩, ⟨⟨⟨by omega, by omega⟩, by omega⟩, by omega⟩, by omega⟩
 ·exact hfit2
 ·unfold Fl.okE
  simp only [Bool.and_eq_true, decide_eq_true_eq]
  unfold netL net1 net2 net3 at he
  rcases List.mem_append.1 he with he | he
  ·rcases List.mem_append.1 he with he | he
   ·obtain ⟨i, hi, rfl⟩ := List.mem_map.1 he
    rw [List.mem_range] at hi
    obtain ⟨h1, h2⟩ := hc i hi
    obtain ⟨h3, h4⟩ := mul_bd h1 h2 hu1 hu4
    unfold edA
    simp only
    refine ⟨⟨⟨⟨⟨⟨by omega, by omega⟩, by omega⟩, by omega⟩, by omega⟩, by omega⟩, by omega⟩
   ·obtain ⟨x, hx, rfl⟩ := List.mem_map.1 he
    obtain ⟨h1, h2⟩ := pairs_mem hx
    obtain ⟨h3, h4⟩ := hc x.1 h1
    unfold edP
    simp only
    refine ⟨⟨⟨⟨⟨⟨by omega, by omega⟩, by omega⟩, by omega⟩, by omega⟩, by omega⟩, by omega⟩
  ·obtain ⟨k, hk, rfl⟩ := List.mem_map.1 he
   rw [List.mem_range] at hk
   have := hcr _ (List.getElem_mem hk)
   unfold edR
   simp only
   rw [List.getD_eq_getElem?_getD, List.getElem?_eq_getElem hk]
   simp only [Option.getD_some]
   refine ⟨⟨⟨⟨⟨⟨by omega, by omega⟩, by omega⟩, by omega⟩, by omega⟩, by omega⟩, by omega⟩
theorem net_len (p : Pg) (l : List At) : (netL p l).length = l.length + (pairsL p l).length + p.reqs.length := by
 unfold netL net1 net2 net3
 simp
 omega
theorem Reads.setSame {α : Type} {w : World} {B sz : Nat} {A : Option Addr} {enc : α → List Value} {xs : List α} (h : Reads w B A sz enc xs) {a : Addr} {v : Value} (ha : w.cell? a = some v) : Reads (w.setCell a v) B A sz enc xs := fun hn => by
 obtain ⟨b', off, e, hlt, hc⟩ := h hn
 refine ⟨b', off, e, hlt, fun i x j u hi hj => ?_⟩
 have h1 := hc i x j u hi hj
 by_cases e : a = ⟨b', off + i * sz + j, none⟩
 ·rw [e] at ha ⊢
  rw [set_at _ _ _ _ ha]
  exact ha.symm.trans h1
 ·exact (set_far _ _ _ _ e).trans h1
theorem usT_bd : ∀ (ps : List (Nat × Nat)) (ys : List Int), (∀ j, j < ps.length → 0 ≤ ys.getD j 0 ∧ ys.getD j 0 ≤ 60) → 0 ≤ usT (usL ps ys) ∧ usT (usL ps ys) ≤ 60 * (ps.length : Int)
 | [], ys, _ => by simp [usL, usT]
 | p :: ps, [], _ => by simp [usL, usT]; omega
 | p :: ps, y :: ys, h => by
   obtain ⟨h1, h2⟩ := usT_bd ps ys (fun j hj => by have := h (j + 1) (by simpa using hj); simpa using this)
   have h3 := h 0 (by simp)
   simp only [List.getD_cons_zero] at h3
   simp only [usL, usT_app, List.length_cons]
   split <;> simp only [usT] <;> omega
theorem Owns.farS {α : Type} {w : World} {base : Nat} {e : TypeId} {sz : Nat} {en : α → List Value} {v : Value} {ys : List α} (h : Owns w base e sz en v ys) {b i : Nat} (ha : b < base) (u : Value) : Owns (w.setCell ⟨b, i, none⟩ u) base e sz en v ys := by
 obtain ⟨h1, h2⟩ := h
 refine ⟨h1, ?_⟩
 rcases h2 with h | ⟨g, cap, cur, k1, k2, k3, k4⟩
 ·exact .inl h
 ·exact .inr ⟨g, cap, cur, k1, k2, (Below.heap_setCell _ _ _ _ (by show g ≠ b; omega)).trans k3, k4⟩
theorem Reads.setOther {α : Type} {w : World} {B sz : Nat} {b : Nat} {o : Nat} {enc : α → List Value} {xs : List α} (h : Reads w B (some ⟨b, o, none⟩) sz enc xs) {a : Addr} (ha : a.block ≠ b) (v : Value) : Reads (w.setCell a v) B (some ⟨b, o, none⟩) sz enc xs := fun hn => by
 obtain ⟨b', off, e, hlt, hc⟩ := h hn
 have e2 : b = b' := congrArg Addr.block (Option.some.inj e)
 exact ⟨b', off, e, hlt, fun i x j v hi hj => (set_far _ _ _ _ (fun e3 => ha (by rw [e2]; exact congrArg Addr.block e3))).trans (hc i x j v hi hj)⟩
theorem flow_bd {p : Pg} {l : List At} {xs : List Int} (hb : Fl.Bd (netL p l) xs) {j : Nat} (hj : j < (pairsL p l).length) (hga : ∀ a ∈ l, a.good = true) : 0 ≤ xs.getD (l.length + j) 0 ∧ xs.getD (l.length + j) 0 ≤ 60 := by
 have hk : ∀ (es : List Fl.Ed) (ys : List Int) (i : Nat), Fl.Bd es ys → i < es.length → 0 ≤ ys.getD i 0 ∧ ys.getD i 0 ≤ (es.getD i default).m := by
  intro es
  induction es with
  | nil => intro ys i _ h; simp at h
  | cons e es ih =>
    intro ys i h hi
    cases ys with
    | nil => exact h.elim
    | cons y ys =>
      obtain ⟨h1, h2, h3⟩ := h
      cases i with
      | zero => exact ⟨h1, h2⟩
      | succ i => exact ih ys i h3 (by simpa using hi)
 have h := hk _ _ (l.length + j) hb (by rw [net_len]; omega)
 refine ⟨h.1, Int.le_trans h.2 ?_⟩
 have hp := pairs_mem (List.getElem_mem hj)
 have hg := good_at (hga _ (List.getElem_mem hp.1))
 have e : (netL p l).getD (l.length + j) default = edP l (pairsL p l)[j] := by
  unfold netL net1 net2 net3
  rw [List.getD_eq_getElem?_getD, List.getElem?_append_left (by simp; omega), List.getElem?_append_right (by simp)]
  simp [List.getElem?_eq_getElem hj]
 rw [e]
 unfold edP
 simp only
 rw [List.getD_eq_getElem?_getD, List.getElem?_eq_getElem hp.1]
 exact hg.2.2.2.1
theorem Tryz.infoUs : (Tryz.prog.info? 109).map (fun i => (i.zero, i.size, i.bytes)) = some (some (.agg #[.int .i64 0, .int .i64 0, .int .i64 0]), 3, 24) := by kernel_rfl
structure AuI (w : World) (p : Pg) (s : Sl) (bF bx F C N K : Nat) (xs : List Int) (cs : List Bool) (v : Value) (M : Int) (W : World) : Prop where
 bp : Bx W w.heap.size (pgC p s)
 ba : Bx W (w.heap.size + 1) [.slice none 0 0, .int .i64 0, .slice none 0 0]
 be : Bx W (w.heap.size + 1 + 1) [.int .i64 0]
 bf : Bx W bF [.slice (some ⟨F, 0, none⟩) N N]
 xb : Bx W bx [v, .int .i64 M, .slice (some ⟨C, 0, none⟩) K K]
 fl : Reads W bF (some ⟨F, 0, none⟩) 1 intE xs
 ct : Reads W bF (some ⟨C, 0, none⟩) 1 boolE cs
 bel : Below w.heap.size w W
 ord : w.heap.size + 1 + 1 < bF ∧ bF < bx
section
variable {w W W' : World} {p : Pg} {s : Sl} {bF bx F C N K : Nat} {xs : List Int} {cs : List Bool} {v : Value} {M : Int}
theorem AuI.step (h : AuI w p s bF bx F C N K xs cs v M W) (hb : Below W.heap.size W W') : AuI w p s bF bx F C N K xs cs v M W' :=
 ⟨h.bp.step hb, h.ba.step hb, h.be.step hb, h.bf.step hb, h.xb.step hb, h.fl.below (hb.mono (Nat.le_of_lt h.bf.2.2)), h.ct.below (hb.mono (Nat.le_of_lt h.bf.2.2)), h.bel.trans (hb.mono h.bel.size), h.ord⟩
theorem AuI.grown (h : AuI w p s bF bx F C N K xs cs v M W) {row : Option Nat} (hg : W.grownBy W' row) (hr : ∀ g, row = some g → bx < g) : AuI w p s bF bx F C N K xs cs v M W' := by
 have ho := h.ord
 have hn : ∀ b, b ≤ bx → row ≠ some b := fun b hb e => by have := hr b e; omega
 have hB : Below bF W W' := (Below.refl bF W).grown hg (Nat.le_of_lt h.bf.2.2) (fun k e => by have := hr k e; omega)
 exact ⟨h.bp.far hg (hn _ (by omega)), h.ba.far hg (hn _ (by omega)), h.be.far hg (hn _ (by omega)), h.bf.far hg (hn _ (by omega)), h.xb.far hg (hn _ (Nat.le_refl _)), h.fl.below hB, h.ct.below hB, h.bel.grown hg h.bel.size (fun k e => by have := hr k e; omega), ho⟩
theorem AuI.setX (h : AuI w p s bF bx F C N K xs cs v M W) {i : Nat} (hi : i < 3) (u : Value) {v' : Value} {M' : Int} (he : [v, .int .i64 M, .slice (some ⟨C, 0, none⟩) K K].set i u = [v', .int .i64 M', .slice (some ⟨C, 0, none⟩) K K]) :
 AuI w p s bF bx F C N K xs cs v' M' (W.setCell ⟨bx, i, none⟩ u) := by
 have ho := h.ord
 have hB : Below bF W (W.setCell ⟨bx, i, none⟩ u) := (Below.refl bF W).setCell (by show bF ≤ bx; omega) _
 refine ⟨h.bp.farC (by show w.heap.size ≠ bx; omega) _, h.ba.farC (by show w.heap.size + 1 ≠ bx; omega) _, h.be.farC (by show w.heap.size + 1 + 1 ≠ bx; omega) _, h.bf.farC (by show bF ≠ bx; omega) _, ?_, h.fl.below hB, h.ct.below hB, h.bel.setCell (by show w.heap.size ≤ bx; omega) _, ho⟩
 rw [← he]
 exact h.xb.setAt hi u
theorem AuI.other (h : AuI w p s bF bx F C N K xs cs v M W) {a : Addr} (ha : bx < a.block) (u : Value) : AuI w p s bF bx F C N K xs cs v M (W.setCell a u) := by
 have ho := h.ord
 have hB : Below bF W (W.setCell a u) := (Below.refl bF W).setCell (by omega) _
 exact ⟨h.bp.farC (by omega) _, h.ba.farC (by omega) _, h.be.farC (by omega) _, h.bf.farC (by omega) _, h.xb.farC (by omega) _, h.fl.below hB, h.ct.below hB, h.bel.setCell (by omega) _, ho⟩
theorem AuI.others (h : AuI w p s bF bx F C N K xs cs v M W) {row : Option Nat} (hg : W.grownBy W' row) (hr : ∀ r, row = some r → bx < r ∧ ∃ o, W.heap[r]? = some o ∧ o.isCells = false) : AuI w p s bF bx F C N K xs cs v M W' := h.grown hg (fun g e => (hr g e).1)
end
set_option maxRecDepth 100000 in
set_option maxHeartbeats 16000000 in
theorem Audit_any {P : Nat → Prop} (p : Pg) (s : Sl) (l : List At) (B : Option Addr) (b : Nat) (w : World) (hr : Rqs w P s p.reqs) (hi : p.mean.i64) (hla : SlR w P 5 At.enc ⟨B, l.length, b⟩ l) (hll : l.length ≤ 100000) (hfit : 2 + l.length + p.reqs.length ≤ 4096 ∧ (netL p l).length ≤ 65536) (h0 : askedE p l = 0) :
 Calls Tryz.prog 17 #[pgV p s, .slice B l.length b] w fun e w' => (∃ (us : List Us) (M : Int) (cs : List Bool) (D C : Option Addr) (d c : Nat), e = .returned (.tuple #[auV ⟨D, us.length, d⟩ M ⟨C, cs.length, c⟩, .int .i64 0]) ∧ UOk p l us ∧ auditE p l us M cs = 0 ∧ M = totR p.reqs - usT us ∧ us.length ≤ 65536 ∧
  SlR w' (fun x => w.heap.size ≤ x) 3 Us.enc ⟨D, us.length, d⟩ us ∧ SlR w' (fun b => C = some ⟨b, 0, none⟩) 1 boolE ⟨C, cs.length, c⟩ cs) ∧ Below w.heap.size w w' := by
 have hn := hr.len
 have HLA := Lib.hid hla
 have HR := Lib.hid hr
 have hC := Lib.hid (fun W (h : Below w.heap.size w W) => Network_any (P := P) p s l B b W (hr.step h) hi (hla.step h) hll h0)
 obtain ⟨hgd, hga⟩ := asked_zero h0
 obtain ⟨hcr, hlr, hu1, hu4⟩ := good_credits hgd
 have HX := Lib.hid (net_ok hgd hga hfit)
 have HFI := Lib.hid hfit
 clear hfit
 have HCR := Lib.hid hcr
 have H0 := Lib.hid h0
 have HGA := Lib.hid hga
 obtain ⟨A, n0, c0⟩ := s
 simp only at hn
 subst hn
 clear hr hla hcr hga
 unfold pgV at hC ⊢
 have hmf : ∀ (fn : Fn) (first cap : Array Value) (w : World), (Instr.makeFunc fn first cap).run Tryz.prog w = .ok (.func fn first cap) w := fun _ _ _ _ => rfl
 refine (callsIn_wide (n := 6)).1 ?_
 refine callsIn_of_wp_marks Tryz.func17 rfl trivial ?_ rfl
 simp only [Tryz.ntmps17, List.size_toArray, List.length_cons, List.length_nil, Nat.reduceAdd, Nat.reduceSub, Array.replicate_succ, Array.replicate_zero, List.push_toArray, List.append_toArray, List.nil_append, List.cons_append]
 refine wpIn_wide.2 ?_
 go_wp2_with fail
 obtain ⟨W1, hW1⟩ : ∃ X, X = ((w.alloc (.cells #[.string p.nm, .int .i64 p.number, .int .i64 p.uses, .int .i64 p.earn, .int .i64 p.mean.num, .int .i64 p.mean.den, .slice A p.reqs.length c0] 44)).alloc (.cells #[.slice none 0 0, .int .i64 0, .slice none 0 0] 35)).alloc (.cells #[.int .i64 0] 37) := ⟨_, rfl⟩
 have q1 : Bx W1 w.heap.size (pgC p ⟨A, p.reqs.length, c0⟩) := by rw [hW1]; exact ((Bx.new w _ _).alloc _).alloc _
 have q2 : Bx W1 (w.heap.size + 1) [.slice none 0 0, .int .i64 0, .slice none 0 0] := by rw [hW1]; exact (Bx.at_ _ _ _ _ (by simp)).alloc _
 have q3 : Bx W1 (w.heap.size + 1 + 1) [.int .i64 0] := by rw [hW1]; exact Bx.at_ _ _ _ _ (by simp)
 have q4 : Below w.heap.size w W1 := by rw [hW1]; exact (((Below.refl _ _).alloc (Nat.le_refl _) _).alloc (by simp) _).alloc (by simp; omega) _
 rw [← hW1]
 have HP := Lib.hid q1
 have HA := Lib.hid q2
 have HE := Lib.hid q3
 have HB := Lib.hid q4
 have HE1 : Hid (w.heap.size + 1 + 1 < W1.heap.size) := Lib.hid q3.2.2
 clear hW1 q1 q2 q3 q4
 refine (hC.out _ HB.out).mono ?_
 rintro e w2 ⟨⟨D, d, rfl, hsl⟩, hb2⟩
 have HP := Lib.hid (HP.out.step hb2)
 have HA := Lib.hid (HA.out.step hb2)
 have HE := Lib.hid (HE.out.step hb2)
 have HB := Lib.hid (HB.out.trans (hb2.mono HB.out.size))
 have HSL := Lib.hid hsl
 clear hb2 hsl
 have m0 := HE.out.1 0 _ rfl
 have mf := HE.out.2.1 0
 have mz := HE.out.2.2
 go_upto_region 3 with fail
 obtain ⟨W3, hW3⟩ : ∃ X, X = w2.setCell ⟨w.heap.size + 1 + 1, 0, none⟩ (.int .i64 0) := ⟨_, rfl⟩
 have HSL : Hid (SlR W3 (fun x => W1.heap.size ≤ x) 3 Fl.Ed.enc ⟨D, (netL p l).length, d⟩ (netL p l)) := Lib.hid (by
  rw [hW3]
  exact HSL.out.keep (Kp.of_grown (grownBy_setCell' w2 (w.heap.size + 1 + 1) (.int .i64 0)) (by have := HE1.out; omega)))
 have HP := Lib.hid (show Bx W3 w.heap.size (pgC p ⟨A, p.reqs.length, c0⟩) by rw [hW3]; exact HP.out.farC (by show w.heap.size ≠ w.heap.size + 1 + 1; omega) _)
 have HE := Lib.hid (show Bx W3 (w.heap.size + 1 + 1) [.int .i64 0] by rw [hW3]; exact HE.out.set1 _)
 have HA := Lib.hid (show Bx W3 (w.heap.size + 1) [.slice none 0 0, .int .i64 0, .slice none 0 0] by rw [hW3]; exact HA.out.farC (by show w.heap.size + 1 ≠ w.heap.size + 1 + 1; omega) _)
 have HB := Lib.hid (show Below w.heap.size w W3 by rw [hW3]; exact HB.out.setCell (by show w.heap.size ≤ w.heap.size + 1 + 1; omega) _)
 rw [← hW3]
 clear hW3 m0 mf mz
 have m0 := HE.out.1 0 _ rfl
 have mz := HE.out.2.2
 go_wp2_with fail
 refine (try_ok W3).mono ?_
 rintro e w3 ⟨rfl, rfl⟩
 have hwn : IntKind.i64.wrap (1 + (l.length : Int) + (p.reqs.length : Int) + 1 - 1) = 1 + (l.length : Int) + (p.reqs.length : Int) := by rw [IntKind.wrap_i64]; omega
 have hMx := Lib.hid (Fl.Max_any (1 + (l.length : Int) + (p.reqs.length : Int) + 1) 0 (1 + (l.length : Int) + (p.reqs.length : Int)) (by omega) (netL p l) D d W3 HSL.out.reads HSL.out.2.1 HSL.out.2.2.1 HSL.out.2.2.2.1)
 go_wp2_with fail
 refine hMx.out.mono ?_
 rintro e w4 ⟨hmx, hb4⟩
 rcases hmx with ⟨_, F, C, xs, cs, c, rfl, hM, hxl, hcut, hrF, hrC⟩ | ⟨hno, _⟩
 rotate_left
 ·rw [HX.out] at hno; cases hno
 have hnn : (1 + (l.length : Int) + (p.reqs.length : Int) + 1).toNat = 2 + l.length + p.reqs.length := by omega
 rw [hnn] at hM hcut ⊢
 have hcl : cs.length = 2 + l.length + p.reqs.length := hcut.1
 have hAL := audit_law H0.out (by have := Fl.okX_inn HX.out; rw [hnn] at this; exact this) hM hcut.1 hcut.2
 have HAL := Lib.hid hAL
 have hxn : xs.length = l.length + (pairsL p l).length + p.reqs.length := by rw [hxl, net_len]
 have hbd : ∀ j, j < (pairsL p l).length → 0 ≤ xs.getD (l.length + j) 0 ∧ xs.getD (l.length + j) 0 ≤ 60 := fun j hj => flow_bd hM.1.1 hj HGA.out
 have HBD := Lib.hid hbd
 have HRF := Lib.hid hrF
 have HRC := Lib.hid (show Reads w4 w4.heap.size (some ⟨C, 0, none⟩) 1 boolE cs from hrC)
 have HP := Lib.hid (HP.out.step hb4)
 have HA := Lib.hid (HA.out.step hb4)
 have HE := Lib.hid (HE.out.step hb4)
 have HB := Lib.hid (HB.out.trans (hb4.mono HB.out.size))
 have HXL := Lib.hid hxl
 have HCL := Lib.hid hcl
 have HXN := Lib.hid hxn
 clear hxl hcl hxn hb4 hM hcut hAL hbd hrF hrC m0 mz hMx hnn HSL
 have m0 := HE.out.1 0 _ rfl
 have mf := HE.out.2.1 0
 have mz := HE.out.2.2
 go_upto_region 5 with fail
 obtain ⟨V4, hV4⟩ : ∃ X, X = w4.setCell ⟨w.heap.size + 1 + 1, 0, none⟩ (.int .i64 0) := ⟨_, rfl⟩
 obtain ⟨W5, hW5⟩ : ∃ X, X = V4.alloc (.cells #[.slice (some ⟨F, 0, none⟩) (netL p l).length (netL p l).length] 64) := ⟨_, rfl⟩
 have hst : Below V4.heap.size V4 W5 := by rw [hW5]; exact (Below.refl _ _).alloc (Nat.le_refl _) _
 have hvz : V4.heap.size = w4.heap.size := by rw [hV4, World.size_setCell]
 have HP := Lib.hid (show Bx W5 w.heap.size (pgC p ⟨A, p.reqs.length, c0⟩) from (show Bx V4 w.heap.size (pgC p ⟨A, p.reqs.length, c0⟩) by rw [hV4]; exact HP.out.farC (by show w.heap.size ≠ w.heap.size + 1 + 1; omega) _).step hst)
 have HE := Lib.hid (show Bx W5 (w.heap.size + 1 + 1) [.int .i64 0] from (show Bx V4 (w.heap.size + 1 + 1) [.int .i64 0] by rw [hV4]; exact HE.out.set1 _).step hst)
 have HA := Lib.hid (show Bx W5 (w.heap.size + 1) [.slice none 0 0, .int .i64 0, .slice none 0 0] from (show Bx V4 (w.heap.size + 1) [.slice none 0 0, .int .i64 0, .slice none 0 0] by rw [hV4]; exact HA.out.farC (by show w.heap.size + 1 ≠ w.heap.size + 1 + 1; omega) _).step hst)
 have hbv : Below w.heap.size w V4 := by rw [hV4]; exact HB.out.setCell (by show w.heap.size ≤ w.heap.size + 1 + 1; omega) _
 have HB := Lib.hid (hbv.trans (hst.mono hbv.size))
 have HF : Hid (Bx W5 w4.heap.size [.slice (some ⟨F, 0, none⟩) (netL p l).length (netL p l).length]) := Lib.hid (by rw [hW5, ← hvz]; exact Bx.new V4 _ _)
 have HRF : Hid (Reads W5 w4.heap.size (some ⟨F, 0, none⟩) 1 intE xs) := Lib.hid ((show Reads V4 w4.heap.size (some ⟨F, 0, none⟩) 1 intE xs by rw [hV4]; exact HRF.out.setSame m0).below (by rw [← hvz]; exact hst))
 have HRC : Hid (Reads W5 w4.heap.size (some ⟨C, 0, none⟩) 1 boolE cs) := Lib.hid ((show Reads V4 w4.heap.size (some ⟨C, 0, none⟩) 1 boolE cs by rw [hV4]; exact HRC.out.setSame m0).below (by rw [← hvz]; exact hst))
 have hz5 : W5.heap.size = w4.heap.size + 1 := by rw [hW5]; simp [hvz]
 rw [← hV4, ← hW5]
 obtain ⟨bF, hbF⟩ : ∃ x, x = w4.heap.size := ⟨_, rfl⟩
 rw [← hbF] at HF HRF HRC hz5 ⊢
 have hFb : w.heap.size + 1 + 1 < bF := by rw [hbF]; exact mz
 clear hW5 hV4 hst hbv hvz m0 mf mz hbF
 have m0 := HE.out.1 0 _ rfl
 have mz := HE.out.2.2
 go_wp2_with fail
 refine (try_ok W5).mono ?_
 rintro e w6 ⟨rfl, rfl⟩
 go_upto_region 7 with fail
 obtain ⟨W6, hW6⟩ : ∃ X, X = W5.alloc (.cells #[.slice none 0 0, .int .i64 0, .slice (some ⟨C, 0, none⟩) (2 + l.length + p.reqs.length) (2 + l.length + p.reqs.length)] 35) := ⟨_, rfl⟩
 have hst : Below W5.heap.size W5 W6 := by rw [hW6]; exact (Below.refl _ _).alloc (Nat.le_refl _) _
 have HI : Hid (AuI w p ⟨A, p.reqs.length, c0⟩ bF W5.heap.size F C (netL p l).length (2 + l.length + p.reqs.length) xs cs (.slice none 0 0) 0 W6) := Lib.hid ⟨HP.out.step hst, HA.out.step hst, HE.out.step hst, HF.out.step hst, by rw [hW6]; exact Bx.new .., HRF.out.below (hst.mono (by omega)), HRC.out.below (hst.mono (by omega)), HB.out.trans (hst.mono HB.out.size), hFb, by omega⟩
 rw [← hW6]
 rw [hz5] at HI
 obtain ⟨bx, hbx⟩ : ∃ x, x = bF + 1 := ⟨_, rfl⟩
 rw [← hbx] at HI ⊢
 have hxb : bF < bx := by omega
 have hz6 : bx < W6.heap.size := HI.out.xb.2.2
 clear hW6 hst hbx m0 mz HP HE HA HB HF HRF HRC hz5
 have p6 := HI.out.bp.1 6 _ rfl
 have pz := HI.out.bp.2.2
 go_wp2_with fail
 go_loopw [43] (fun i W => ∃ k : Nat, k ≤ p.reqs.length ∧ i = .int .i64 k ∧ AuI w p ⟨A, p.reqs.length, c0⟩ bF bx F C (netL p l).length (2 + l.length + p.reqs.length) xs cs (.slice none 0 0) (totR (p.reqs.take k)) W) (fun i _ => p.reqs.length - (intOf i).toNat)
 case atStart => exact ⟨0, Nat.zero_le _, rfl, HI.out⟩
 case round =>
  clear HI p6 pz hz6
  obtain ⟨k, hk, rfl, hI⟩ := hrel
  have HI := Lib.hid hI
  clear hI
  by_cases hlt : k < p.reqs.length
  ·obtain ⟨bb, off, q, nm, ns, f, hAe, hbb, hqk, hqf, q0, q1, q2, q3, q4, q5⟩ := (HR.out.step HI.out.bel).at_ hlt
   simp only at hAe
   subst hAe
   have hcq := HCR.out q (List.mem_of_getElem? hqk)
   have hTb := totR_bd (p.reqs.take k) (fun y hy => HCR.out y (List.mem_of_mem_take hy))
   have hTl : (p.reqs.take k).length ≤ 64 := by rw [List.length_take]; omega
   have HT : Hid (totR (p.reqs.take (k + 1)) = totR (p.reqs.take k) + q.credits) := Lib.hid (by rw [take_snoc_of hqk, totR_snoc])
   obtain ⟨T, hT⟩ : ∃ T, T = totR (p.reqs.take k) := ⟨_, rfl⟩
   rw [← hT] at hTb HT HI
   have hT0 : 0 ≤ T := hTb.1
   have hT1 : T ≤ 640000 := by omega
   have hst : Below wr.heap.size wr (wr.alloc (.cells #[.string nm, .int .i64 q.credits, .int .i64 q.grade, .bool q.home, .slice ns.a ns.n ns.c, .slice f.a f.n f.c] 67)) := (Below.refl _ _).alloc (Nat.le_refl _) _
   have x1 := HI.out.xb.1 1 _ rfl
   have xf := HI.out.xb.2.1 1
   have xz := HI.out.xb.2.2
   clear hqf hqk hTb hTl hT hst
   go_wp2_with fail
   go_roundw
   case rel => exact ⟨k + 1, by omega, by go_num, by rw [HT.out]; exact (HI.out.setX (i := 1) (by decide) (.int .i64 (T + q.credits)) rfl).step ((Below.refl _ _).alloc (Nat.le_refl _) _)⟩
   case measure => simp [intOf]; omega
  ·obtain rfl : p.reqs.length = k := by omega
   rw [List.take_length] at HI
   have HTB := Lib.hid (totR_bd p.reqs HCR.out)
   obtain ⟨T, hT⟩ : ∃ T, T = totR p.reqs := ⟨_, rfl⟩
   rw [← hT] at HI HTB
   have HTT := Lib.hid hT
   clear hT hlt
   go_upto_region 13 with fail
   obtain ⟨W7, hW7⟩ : ∃ X, X = wr.alloc (.cells #[.int .i64 (l.length : Int)] 3) := ⟨_, rfl⟩
   have hst : Below wr.heap.size wr W7 := by rw [hW7]; exact (Below.refl _ _).alloc (Nat.le_refl _) _
   have HIL : Hid (bx < wr.heap.size) := Lib.hid HI.out.xb.2.2
   have HI := Lib.hid (HI.out.step hst)
   have HBT : Hid (Bx W7 wr.heap.size [.int .i64 (l.length : Int)]) := Lib.hid (by rw [hW7]; exact Bx.new ..)
   have hxt : bx < wr.heap.size := HIL.out
   rw [← hW7]
   obtain ⟨bt, hbt⟩ : ∃ x, x = wr.heap.size := ⟨_, rfl⟩
   rw [← hbt] at HBT hxt ⊢
   clear hW7 hst HIL hbt
   have p0 := HI.out.bp.1 0 _ rfl
   have p1 := HI.out.bp.1 1 _ rfl
   have p2 := HI.out.bp.1 2 _ rfl
   have p3 := HI.out.bp.1 3 _ rfl
   have p4 := HI.out.bp.1 4 _ rfl
   have p5 := HI.out.bp.1 5 _ rfl
   have p6 := HI.out.bp.1 6 _ rfl
   have pz := HI.out.bp.2.2
   have hPA := Lib.hid (pairs_any p ⟨A, p.reqs.length, c0⟩ B l.length b W7)
   unfold pgV pgC at hPA
   go_wp2_with fail
   refine hPA.out.mono ?_
   rintro e w5 ⟨rfl, hw5⟩
   have h5 : Below W7.heap.size W7 w5 := by rw [hw5]; exact ((Below.refl _ _).alloc (Nat.le_refl _) _).alloc (by simp) _
   have hz5 : w5.heap.size = W7.heap.size + 2 := by rw [hw5]; simp
   have HI5 := Lib.hid (HI.out.step h5)
   have HBT5 := Lib.hid (HBT.out.step h5)
   have HPI : Hid (PrI w5 (fun x => x < w.heap.size ∨ (x = W7.heap.size ∨ x = W7.heap.size + 1)) p l ⟨A, p.reqs.length, c0⟩ B b (W7.heap.size + 1) W7.heap.size) := Lib.hid (by
    have hb := HI5.out.bel
    refine ⟨?_, ?_, ((HR.out.small (Q := fun x => x < w.heap.size) (fun _ h => h)).step hb).mono (fun x h => .inl h), ((HLA.out.small (Q := fun x => x < w.heap.size) (fun _ h => h)).step hb).mono (fun x h => .inl h), .inr (.inr rfl), .inr (.inl rfl)⟩
    ·rw [hw5]; exact Bx.at_ _ _ _ _ (by simp)
    ·rw [hw5]; exact (Bx.new W7 _ _).alloc _)
   have hbt7 : bt < W7.heap.size := HBT.out.2.2
   clear hw5 h5 HI p0 p1 p2 p3 p4 p5 p6 pz hPA
   obtain ⟨q, hq⟩ : ∃ q, q = W7.heap.size := ⟨_, rfl⟩
   rw [← hq] at HPI hz5 hbt7 ⊢
   clear hq
   obtain ⟨ys, hys⟩ : ∃ ys, ys = xs.drop l.length := ⟨_, rfl⟩
   rw [← hys] at HAL
   have hyl : ys.length = (pairsL p l).length + p.reqs.length := by rw [hys, List.length_drop]; have := HXN.out; omega
   have hyg : ∀ j, ys.getD j 0 = xs.getD (l.length + j) 0 := fun j => by rw [hys, List.getD_eq_getElem?_getD, List.getD_eq_getElem?_getD, List.getElem?_drop]
   have HYL := Lib.hid hyl
   have HYG := Lib.hid hyg
   clear hys hyl hyg
   obtain ⟨i0, hi0, hz0, hz1, hz2⟩ := info_parts Tryz.infoUs
   have HI0 := Lib.hid hi0
   clear hi0
   have hbo := HI5.out.ord
   go_wp2_with fail
   refine (wpIn_wide (n := 5)).1 ?_
   refine wpIn_seqT (α := Nat × Nat) rfl (by decide) (gf := 90) (lb := #[.pointer (some ⟨q + 1, 0, none⟩), .pointer (some ⟨q, 0, none⟩)]) rfl trivial (enters_of Tryz.func90 (by kernel_rfl) rfl)
    (own := fun _ => False) (Kp := KeepT w5.heap.size 109 (fun x => x = bx ∨ x = bt)) (fun X Y _ hb => KeepT.of_below hb) (fun _ _ _ h k => h.trans k) (fun X l o h1 h2 => KeepT.putObj X ⟨h1, h2⟩ o) (fun _ h => h.elim)
    (pairs_iter w5 4 p l ⟨A, p.reqs.length, c0⟩ B b (q + 1) q HPI.out hlr hll 109 (by decide) (fun x => x = bx ∨ x = bt) (fun x hp hf => by have := HI5.out.bel.size; omega) (fun x hf => by omega) (fun x hp => by have := HI5.out.bel.size; omega))
    (fun _ => rfl) (fun pre W => ∃ v, AuI w p ⟨A, p.reqs.length, c0⟩ bF bx F C (netL p l).length (2 + l.length + p.reqs.length) xs cs v (T - usT (usL pre ys)) W ∧ Bx W bt [.int .i64 ((l.length : Int) + (pre.length : Int))] ∧ Owns W (q + 2) 109 3 Us.enc v (usL pre ys)) (fun cc _ _ => False) ?own ?ownx (fun _ _ _ _ _ h => h.elim) (fun _ _ _ _ _ _ h => h.elim) ⟨.slice none 0 0, by simpa [usL, usT] using HI5.out, by simpa using HBT5.out, Owns.nil_ _ _ _ _ _⟩
    ?G ?assign ?body ?done ?stop
   case own =>
    rintro pre W W' row ⟨v, hI, hT, hO⟩ hg hr
    refine ⟨v, hI.others hg (fun r e => by have := hr r e; exact ⟨by omega, this.2⟩), hT.far hg (fun e => by have := hr _ e; omega), hO.kept hg (fun g hgo e => ?_)⟩
    obtain ⟨_, o, ho, hc⟩ := hr _ e
    obtain ⟨o', h1, h2⟩ := hO.isCells g hgo
    rw [h1] at ho
    cases ho
    rw [h2] at hc
    cases hc
   case ownx => exact fun cc pre W W' row h hg hr => h
   case assign =>
    intro l pre x W K hi hpr hz hK
    gi_wp2
    exact hK _ (KeepsOthers.refl _) (Below.refl _ _)
   case body =>
    rintro l' pre x W ⟨v, hI, hT, hO⟩ hpr hz
    have HI := Lib.hid hI
    have HT := Lib.hid hT
    have HO := Lib.hid hO
    obtain ⟨t, ht⟩ := hpr
    have hpl : pre.length < (pairsL p l).length := by have := congrArg List.length ht; simp at this; omega
    have hxm := pairs_mem (p := p) (l := l) (x := x) (by rw [← ht]; simp)
    have hps : (pairsL p l).length ≤ 65536 := by have h1 := net_len p l; have h2 := HFI.out.2; omega
    clear ht
    obtain ⟨i, k⟩ := x
    simp only at hxm
    obtain ⟨hf0, hf1⟩ := HBD.out pre.length hpl
    have HSN : Hid (usL (pre ++ [(i, k)]) ys = usL pre ys ++ (if 0 < xs.getD (l.length + pre.length) 0 then [⟨(i : Int), (k : Int), xs.getD (l.length + pre.length) 0⟩] else [])) := Lib.hid (by rw [usL_snoc _ _ _ (by rw [HYL.out]; omega), HYG.out])
    obtain ⟨hu0, hu1⟩ := usT_bd pre ys (fun j hj => by rw [HYG.out]; exact HBD.out j (by omega))
    have hul := usL_len pre ys
    have hjx : l.length + pre.length < xs.length := by rw [HXN.out]; omega
    obtain ⟨bF', oF, x0, hFe, hFl, hxk, hxc⟩ := hI.fl.at_ hjx
    obtain ⟨rfl, rfl⟩ : F = bF' ∧ 0 = oF := by injection hFe with h; injection h with h1 h2; exact ⟨h1, h2⟩
    rw [show xs.getD (l.length + pre.length) 0 = x0 from getD_some hxk] at hf0 hf1 HSN
    have c0' := hxc 0 _ rfl
    simp only [Nat.add_zero, Nat.mul_one, Nat.zero_add] at c0'
    have hFW : F < W.heap.size := by have := hI.bf.2.2; omega
    have hjN : l.length + pre.length < (netL p l).length := by rw [← HXL.out]; exact hjx
    obtain ⟨j, hj⟩ : ∃ j, j = l.length + pre.length := ⟨_, rfl⟩
    rw [← hj] at c0' hjN
    rw [show (l.length : Int) + (pre.length : Int) = (j : Int) by omega] at HT
    have HJ : Hid ((l.length : Int) + ((pre ++ [(i, k)]).length : Int) = (j : Int) + 1) := Lib.hid (by simp; omega)
    have hj63 : j < 100000 := by have := HFI.out.2; omega
    obtain ⟨us, hus⟩ : ∃ us, us = usL pre ys := ⟨_, rfl⟩
    rw [← hus] at HI HO HSN hu0 hu1 hul
    obtain ⟨M, hM⟩ : ∃ M, M = T - usT us := ⟨_, rfl⟩
    rw [← hM] at HI
    have hTb := HTB.out
    have hM1 : M ≤ 640000 := by omega
    have hM0 : -10000000 ≤ M := by omega
    have HM := Lib.hid hM
    have HUL : Hid (us.length ≤ 65536) := Lib.hid (by omega)
    have f0 := hI.bf.1 0 _ rfl
    have fz := hI.bf.2.2
    have t0 := HT.out.1 0 _ rfl
    have tf := HT.out.2.1 0
    have tz := HT.out.2.2
    have x1 := HI.out.xb.1 0 _ rfl
    have x2 := HI.out.xb.1 1 _ rfl
    have xf0 := HI.out.xb.2.1 0
    have xf1 := HI.out.xb.2.1 1
    have xz := HI.out.xb.2.2
    clear hxk hxc hFe hjx hj hus hM hTb hu0 hu1 hul hpl hI hT hO
    by_cases hfp : 0 < x0
    ·rw [if_pos hfp] at HSN
     have d1 : decide (0 < x0) = true := by simpa using hfp
     gi_wp2_with (gi_at_builtin; refine stop_mk ?_)
     have hst : Below W.heap.size W (W.alloc (.cells #[.int .i64 i, .int .i64 k, .int .i64 x0] 109)) := (Below.refl _ _).alloc (Nat.le_refl _) _
     refine stop_out (wpListIn_append_reads (en := Us.enc) (sz := 3) _ rfl _ _ _ rfl Us.enc_len Us.enc_one (q + 2) 109 i0 _ 24 Tryz.underlying30 HI0.out hz0 hz1 hz2 rfl (by omega) v us rfl (HO.out.alloc _) (W.heap.size + 1) (some ⟨W.heap.size, 0, none⟩) 1 [⟨(i : Int), (k : Int), x0⟩] rfl (reads_one W Us.enc ⟨(i : Int), (k : Int), x0⟩ _ _ rfl 3 W.heap.size rfl) (fun h => by cases h) (by have := HUL.out; simp [maxLen]; omega) (by have := HUL.out; simp; omega) (by simp; omega) ?_)
     intro v2 w6 ho2 hg2 hv2
     obtain ⟨A2, c2, rfl, _, _⟩ := ho2.shape
     have hob : ∀ g, v.ownBlock = some g → q + 2 ≤ g := HO.out.base_le
     have HI6 := Lib.hid ((HI.out.step hst).grown hg2 (fun g e => by have := hob g e; omega))
     have HT6 := Lib.hid ((HT.out.step hst).far hg2 (fun e => by have := hob _ e; omega))
     have HKT : Hid (KeepT w5.heap.size 109 (fun x => x = bx ∨ x = bt) W w6 ∧ KeepsOthers W w6) := Lib.hid (by
      refine ⟨(KeepT.of_below hst).grown hg2 (fun g hg => .inr ⟨by rw [hz5]; exact hob g hg, ?_⟩), (KeepsOthers.of_below hst).trans (keeps_grown hg2 (fun g hg => (HO.out.alloc _).isCells g hg))⟩
      obtain ⟨cs, h, _⟩ := (HO.out.alloc (.cells #[.int .i64 i, .int .i64 k, .int .i64 x0] 109)).typed hg
      exact ⟨cs, _, h⟩)
     have HO2 := Lib.hid ho2
     have x1 := HI6.out.xb.1 0 _ rfl
     have x2 := HI6.out.xb.1 1 _ rfl
     have xf0 := HI6.out.xb.2.1 0
     have xf1 := HI6.out.xb.2.1 1
     have xz := HI6.out.xb.2.2
     have t0 := HT6.out.1 0 _ rfl
     have tf := HT6.out.2.1 0
     have tz := HT6.out.2.2
     clear hst ho2 hg2 hv2 hob c0' hFW f0 fz HI HT HO
     gi_wp2
     refine ⟨((HKT.out.2.trans (KeepsOthers.setCell _ _ _)).trans (KeepsOthers.setCell _ _ _)).trans (KeepsOthers.setCell _ _ _), ((HKT.out.1.setCell (.inl rfl) _).setCell (.inl rfl) _).setCell (.inr rfl) _, .slice A2 (us.length + 1) c2, ?_, ?_, ?_⟩
     ·rw [HSN.out, usT_app, show usT [(⟨(i : Int), (k : Int), x0⟩ : Us)] = x0 by simp [usT], show T - (usT us + x0) = M - x0 by rw [HM.out]; omega]
      exact ((HI6.out.setX (i := 0) (by decide) (.slice A2 (us.length + 1) c2) rfl).setX (i := 1) (by decide) (.int .i64 (M - x0)) rfl).other (by show bx < bt; omega) _
     ·rw [HJ.out]
      exact ((HT6.out.farC (by show bt ≠ bx; omega) _).farC (by show bt ≠ bx; omega) _).set1 _
     ·rw [HSN.out]
      have h := HO2.out
      rw [List.length_append] at h
      exact ((h.farS (by show bx < q + 2; omega) _).farS (by show bx < q + 2; omega) _).farS (by show bt < q + 2; omega) _
    ·obtain rfl : x0 = 0 := by omega
     rw [if_neg (by omega), List.append_nil] at HSN
     gi_wp2
     refine ⟨KeepsOthers.setCell _ _ _, (KeepT.refl _ _ _ _).setCell (.inr rfl) _, v, ?_, ?_, ?_⟩
     ·rw [HSN.out, ← HM.out]
      exact HI.out.other (by show bx < bt; omega) _
     ·rw [HJ.out]
      exact HT.out.set1 _
     ·rw [HSN.out]
      exact HO.out.farS (by show bt < q + 2; omega) _
   case done =>
    rintro D' ps W hD rfl ⟨v, hI, hT, hO⟩ hK
    have HI := Lib.hid hI
    have HO := Lib.hid hO
    have HK := Lib.hid hK
    obtain ⟨us, hus⟩ : ∃ us, us = usL (pairsL p l) ys := ⟨_, rfl⟩
    rw [← hus] at HI HO HAL
    have hul : us.length ≤ 65536 := by rw [hus]; exact Nat.le_trans (usL_len _ _) (by have h1 := net_len p l; have h2 := HFI.out.2; omega)
    have HUL := Lib.hid hul
    rw [← HTT.out] at HAL
    obtain ⟨M, hM⟩ : ∃ M, M = T - usT us := ⟨_, rfl⟩
    rw [← hM] at HI HAL
    have HM := Lib.hid hM
    obtain ⟨A2, c2, hve, _, _⟩ := HO.out.shape
    subst hve
    have x1 := HI.out.xb.1 0 _ rfl
    have x2 := HI.out.xb.1 1 _ rfl
    have x3 := HI.out.xb.1 2 _ rfl
    have xz := HI.out.xb.2.2
    have b1 := HI.out.ba.1 0 _ rfl
    have b2 := HI.out.ba.1 1 _ rfl
    have b3 := HI.out.ba.1 2 _ rfl
    have g1 := HI.out.ba.2.1 0
    have g2 := HI.out.ba.2.1 1
    have g3 := HI.out.ba.2.1 2
    have bz := HI.out.ba.2.2
    have m0 := HI.out.be.1 0 _ rfl
    have mf := HI.out.be.2.1 0
    have mz := HI.out.be.2.2
    clear hus hul hM hI hT hO hK
    gi_wp2
    go_wp2_with fail
    obtain ⟨W9, hW9⟩ : ∃ X, X = (((W.setCell ⟨w.heap.size + 1, 0, none⟩ (.slice A2 us.length c2)).setCell ⟨w.heap.size + 1, 1, none⟩ (.int .i64 M)).setCell ⟨w.heap.size + 1, 2, none⟩ (.slice (some ⟨C, 0, none⟩) (2 + l.length + p.reqs.length) (2 + l.length + p.reqs.length))).setCell ⟨w.heap.size + 1 + 1, 0, none⟩ (.int .i64 0) := ⟨_, rfl⟩
    have y1 : Bx W9 (w.heap.size + 1) [.slice A2 us.length c2, .int .i64 M, .slice (some ⟨C, 0, none⟩) (2 + l.length + p.reqs.length) (2 + l.length + p.reqs.length)] := by
     rw [hW9]
     exact (((HI.out.ba.setAt (i := 0) (by decide) _).setAt (i := 1) (by simp) _).setAt (i := 2) (by simp) _).farC (by show w.heap.size + 1 ≠ w.heap.size + 1 + 1; omega) _
    have y2 : Bx W9 (w.heap.size + 1 + 1) [.int .i64 0] := by
     rw [hW9]
     exact (((HI.out.be.farC (by show w.heap.size + 1 + 1 ≠ w.heap.size + 1; omega) _).farC (by show w.heap.size + 1 + 1 ≠ w.heap.size + 1; omega) _).farC (by show w.heap.size + 1 + 1 ≠ w.heap.size + 1; omega) _).set1 _
    have yK : W9.heap[D']? = some (.deferred (some [])) := by
     rw [hW9]
     exact ((((KeepsOthers.setCell _ _ _).trans (KeepsOthers.setCell _ _ _)).trans (KeepsOthers.setCell _ _ _)).trans (KeepsOthers.setCell _ _ _)).same D' _ HK.out rfl
    have yO : Owns W9 (q + 2) 109 3 Us.enc (.slice A2 us.length c2) us := by
     rw [hW9]
     exact (((HO.out.farS (by show w.heap.size + 1 < q + 2; omega) _).farS (by show w.heap.size + 1 < q + 2; omega) _).farS (by show w.heap.size + 1 < q + 2; omega) _).farS (by show w.heap.size + 1 + 1 < q + 2; omega) _
    have yB : Below w.heap.size w W9 := by
     rw [hW9]
     exact (((HI.out.bel.setCell (by show w.heap.size ≤ w.heap.size + 1; omega) _).setCell (by show w.heap.size ≤ w.heap.size + 1; omega) _).setCell (by show w.heap.size ≤ w.heap.size + 1; omega) _).setCell (by show w.heap.size ≤ w.heap.size + 1 + 1; omega) _
    obtain ⟨hC1, hC2⟩ : C ≠ w.heap.size + 1 ∧ C ≠ w.heap.size + 1 + 1 := by
     obtain ⟨b', off, x, hCe, _, _, hcc⟩ := HI.out.ct.at_ (k := 0) (by rw [HCL.out]; omega)
     obtain ⟨rfl, rfl⟩ : C = b' ∧ 0 = off := by injection hCe with h; injection h with h1 h2; exact ⟨h1, h2⟩
     have h0 := hcc 0 _ rfl
     simp only [Nat.add_zero, Nat.zero_mul] at h0
     refine ⟨fun e => ?_, fun e => ?_⟩
     ·rw [e, b1] at h0; cases h0
     ·rw [e, m0] at h0; cases h0
    have yC : Reads W9 bF (some ⟨C, 0, none⟩) 1 boolE cs := by
     rw [hW9]
     exact (((HI.out.ct.setOther (fun e => hC1 e.symm) _).setOther (fun e => hC1 e.symm) _).setOther (fun e => hC1 e.symm) _).setOther (fun e => hC2 e.symm) _
    rw [← hW9]
    have hg := grownBy_putObj' W9 D' (.deferred none)
    have z1 := y1.far hg (fun e => by cases e; omega)
    have z2 := y2.far hg (fun e => by cases e; omega)
    have zO := yO.kept hg (fun g hgo e => by
     cases e
     obtain ⟨o', h1, h2⟩ := yO.isCells _ hgo
     rw [yK] at h1
     cases h1
     cases h2)
    have zB := yB.grown hg yB.size (fun k e => by cases e; omega)
    have hbW : bF ≤ W9.heap.size := by
     have := HI.out.bf.2.2
     have e1 : W9.heap.size = W.heap.size := by rw [hW9]; simp only [World.size_setCell]
     omega
    have zC : Reads (W9.putObj D' (.deferred none)) bF (some ⟨C, 0, none⟩) 1 boolE cs := yC.below ((Below.refl bF W9).grown hg hbW (fun k e => by cases e; omega))
    have zz : bF ≤ (W9.putObj D' (.deferred none)).heap.size := by
     have := HI.out.bf.2.2
     have e1 : W9.heap.size = W.heap.size := by rw [hW9]; simp only [World.size_setCell]
     simp
     omega
    clear hW9 y1 y2 yO yB yC
    refine ⟨by simp, .inl ⟨_, _, rfl, run_takeDeferred yK, ?_⟩⟩
    refine ⟨by simp, .inr ⟨fun h => by simp [Fence.wide] at h, _, _, 45, #[.pointer (some ⟨w.heap.size + 1 + 1, 0, none⟩)], rfl, rfl, fun _ _ => trivial, (deferred_idle 5 _ _).mono ?_⟩⟩
    rintro e u' w4 ⟨rfl, rfl, rfl⟩
    have k0 := z1.1 0 _ rfl
    have k1 := z1.1 1 _ rfl
    have k2 := z1.1 2 _ rfl
    have k3 := z2.1 0 _ rfl
    show LeavesInM _ _ _ _ _ _ [] (settle .returning) _
    refine ⟨.tuple #[.agg #[.slice A2 us.length c2, .int .i64 M, .slice (some ⟨C, 0, none⟩) (2 + l.length + p.reqs.length) (2 + l.length + p.reqs.length)], .int .i64 0], by simp [results, Tryz.results17, go_sem, k0, k1, k2, k3], ⟨us, M, cs, A2, some ⟨C, 0, none⟩, c2, 2 + l.length + p.reqs.length, by unfold auV; rw [HCL.out], HAL.out.1, HAL.out.2, by rw [HM.out, HTT.out], HUL.out, (SlR.of_owns Us.enc_len zO).mono (fun x hx => by omega), ?_⟩, zB⟩
    refine ⟨rfl, by rw [HCL.out]; exact Nat.le_refl _, (by simp [maxLen]; omega), (fun h => by cases h), ?_, fun _ a ha => ?_⟩
    ·exact zC.more zz
    ·simp only at ha; cases ha; rfl
   case stop => exact fun D' cc pre W hD _ h hK => h.elim
end Go.Proofs.YtalmbigebjbaoaaGreatDoor
