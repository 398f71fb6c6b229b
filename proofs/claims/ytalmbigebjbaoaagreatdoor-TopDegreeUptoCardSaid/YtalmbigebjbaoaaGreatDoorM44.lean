/- TopDegree, what its proof leans on: the texts TpI, TpJ, TpK. -/
import Derived.Test.YtalmbigebjbaoaaGreatDoorM43
import Derived.Test.YtalmbigebjbaoaaGreatDoorM42
import Derived.Test.YtalmbigebjbaoaaGreatDoorM41
import Derived.Test.YtalmbigebjbaoaaGreatDoorM26
import Derived.Test.YtalmbigebjbaoaaGreatDoorM38
import Derived.Deep.CutBlock
import Derived.Deep.CutRange
import Derived.BigRegion
namespace Go.Proofs.YtalmbigebjbaoaaGreatDoor
open Go.RowKit Go.Shelf
set_option linter.unusedSimpArgs false
set_option linter.unusedVariables false
theorem SlR.mono3 {α : Type} {w : World} {P Q : Nat → Prop} {sz : Nat} {en : α → List Value} {s : Sl} {xs : List α} (h : SlR w P sz en s xs) (hq : ∀ b, P b → b < w.heap.size → Q b) : SlR w Q sz en s xs := by
 refine ⟨h.1, h.2.1, h.2.2.1, h.2.2.2.1, h.2.2.2.2.1, fun hn a e => ?_⟩
 obtain ⟨b, o, e2, hb, _⟩ := h.2.2.2.2.1 hn
 have e3 : a = ⟨b, o, none⟩ := by rw [e] at e2; exact Option.some.inj e2
 have h9 := h.2.2.2.2.2 hn a e
 rw [e3] at h9 ⊢
 exact hq _ h9 hb
theorem Owns.setF {W : World} {B : Nat} {e : TypeId} {A : Option Addr} {n c : Nat} {hs : List RqH} (h : Owns W B e 6 RqH.enc (.slice A n c) hs) {k : Nat} {x : RqH} (hk : hs[k]? = some x) (s : Sl) :
 ∃ g, A = some ⟨g, 0, none⟩ ∧ B ≤ g ∧ g < W.heap.size ∧ (Value.slice A n c).ownBlock = some g ∧ W.frozen? ⟨g, k * 6 + 5, none⟩ = false ∧ Owns (W.setCell ⟨g, k * 6 + 5, none⟩ (.slice s.a s.n s.c)) B e 6 RqH.enc (.slice A n c) (hs.set k { x with fr := s }) := by
 have hkl := (List.getElem?_eq_some_iff.1 hk).1
 rcases h.2 with ⟨_, h2⟩ | ⟨g, cap, cur, hv, h2, h3, h4, h5, h6, h7⟩
 ·omega
 ·simp only [Value.slice.injEq] at hv
  obtain ⟨rfl, rfl, rfl⟩ := hv
  have hfl : (hs.set k { x with fr := s }).flatMap RqH.enc = (hs.flatMap RqH.enc).set (k * 6 + 5) (.slice s.a s.n s.c) := by
   apply List.ext_getElem?
   intro j
   have l1 := flat_length RqH.enc_len hs
   have l2 := flat_length RqH.enc_len (hs.set k { x with fr := s })
   rw [List.length_set] at l2
   by_cases hj : j < hs.length * 6
   ·have hq : j / 6 < hs.length := by omega
    have hm : j % 6 < 6 := Nat.mod_lt _ (by omega)
    have hxj : ∀ (ys : List RqH) (y : RqH), ys[j / 6]? = some y → (ys.flatMap RqH.enc)[j]? = (RqH.enc y)[j % 6]? := fun ys y hy => by
     have hm2 : j % 6 < (RqH.enc y).length := by rw [RqH.enc_len]; exact hm
     have := flat_get RqH.enc_len ys (j / 6) y (j % 6) (RqH.enc y)[j % 6] hy (List.getElem?_eq_getElem hm2)
     rw [Nat.div_add_mod'] at this
     rw [this, List.getElem?_eq_getElem hm2]
    rw [List.getElem?_set]
    by_cases e1 : k = j / 6
    ·have h8 : (hs.set k { x with fr := s })[j / 6]? = some { x with fr := s } := by rw [← e1, List.getElem?_set_self hkl]
     rw [hxj _ _ h8]
     have h9 := hxj hs x (by rw [← e1]; exact hk)
     by_cases e2 : j % 6 = 5
     ·rw [if_pos (by omega), if_pos (by rw [l1]; omega), e2]
      rfl
     ·rw [if_neg (by omega), h9]
      have : j % 6 = 0 ∨ j % 6 = 1 ∨ j % 6 = 2 ∨ j % 6 = 3 ∨ j % 6 = 4 := by omega
      rcases this with e | e | e | e | e <;> rw [e] <;> rfl
    ·rw [if_neg (by omega)]
     have h8 : (hs.set k { x with fr := s })[j / 6]? = some hs[j / 6] := by rw [List.getElem?_set_ne e1]; exact List.getElem?_eq_getElem hq
     rw [hxj _ _ h8, hxj hs _ (List.getElem?_eq_getElem hq)]
   ·rw [List.getElem?_eq_none (by rw [l2]; omega), List.getElem?_eq_none (by rw [List.length_set, l1]; omega)]
  refine ⟨g, rfl, h2, (Array.getElem?_eq_some_iff.1 h3).1, rfl, by simp [World.frozen?, h3], ⟨by rw [flat_length RqH.enc_len], .inr ⟨g, c, cur.setIfInBounds (k * 6 + 5) (.slice s.a s.n s.c), by simp, h2, heap_setCell_same W g _ _ _ _ h3, by simpa using h4, h5, by simpa using h6, ?_⟩⟩⟩
  rw [hfl, ← h7, List.length_set, Array.toList_setIfInBounds, List.take_set]
structure OfL (w : World) (O : Nat → Prop) (Wr : World) (z : Nat) (hs : List RqH) (vq : Value) (done : List (Sl × List Int)) (rs : List Rd) (v9 : Value) (W : World) : Prop where
 br : Bx W (w.heap.size + 3) [v9]
 rd : Owns W (w.heap.size + 5) 130 5 Rd.enc v9 rs
 rq : Owns W (w.heap.size + 5) 67 6 RqH.enc vq hs
 dn : ∀ s ns, (s, ns) ∈ done → SlR W (fun b => b < z ∧ w.heap.size + 5 ≤ b ∧ v9.ownBlock ≠ some b ∧ vq.ownBlock ≠ some b) 1 intE s ns
 aq : ∀ k, vq.ownBlock = some k → k < z ∧ v9.ownBlock ≠ some k
 bw : Below w.heap.size w W
 zW : z ≤ W.heap.size
 zB : w.heap.size + 5 ≤ z
 ot : ∀ k, O k → k < z ∧ k ≠ w.heap.size + 3 ∧ v9.ownBlock ≠ some k ∧ vq.ownBlock ≠ some k ∧ W.heap[k]? = Wr.heap[k]?
section
variable {w Wr W W' : World} {O : Nat → Prop} {z z' : Nat} {hs : List RqH} {vq : Value} {done : List (Sl × List Int)} {rs : List Rd} {v9 : Value}
theorem OfL.step (h : OfL w O Wr z hs vq done rs v9 W) (hb : Below W.heap.size W W') : OfL w O Wr z hs vq done rs v9 W' :=
 ⟨h.br.step hb, h.rd.below hb (Nat.le_refl _), h.rq.below hb (Nat.le_refl _), fun s ns m => (h.dn s ns m).step hb, h.aq, h.bw.trans (hb.mono h.bw.size), Nat.le_trans h.zW hb.size, h.zB, fun k hk => by
   obtain ⟨a1, a2, a3, a4, a5⟩ := h.ot k hk
   exact ⟨a1, a2, a3, a4, (hb.block k (Nat.lt_of_lt_of_le a1 h.zW)).trans a5⟩⟩
theorem OfL.raise (h : OfL w O Wr z hs vq done rs v9 W) (h1 : z ≤ z') (h2 : z' ≤ W.heap.size) : OfL w O Wr z' hs vq done rs v9 W :=
 ⟨h.br, h.rd, h.rq, fun s ns m => (h.dn s ns m).mono (fun b ⟨p, q⟩ => ⟨Nat.lt_of_lt_of_le p h1, q⟩), fun k e => ⟨Nat.lt_of_lt_of_le (h.aq k e).1 h1, (h.aq k e).2⟩, h.bw, h2, Nat.le_trans h.zB h1, fun k hk => by
   obtain ⟨a1, a2⟩ := h.ot k hk
   exact ⟨Nat.lt_of_lt_of_le a1 h1, a2⟩⟩
theorem OfL.grow (h : OfL w O Wr z hs vq done rs v9 W) {row : Option Nat} (hg : W.grownBy W' row) (hr : ∀ g, row = some g → z ≤ g ∧ v9.ownBlock ≠ some g) : OfL w O Wr z hs vq done rs v9 W' := by
 have hzB := h.zB
 have hzW := h.zW
 refine ⟨h.br.keep (P := fun y => y = w.heap.size + 3) (Kp.of_grown2 hg (fun y hy e => by have := hr y e.symm; omega)) rfl, h.rd.kept hg (fun g hg2 e => (hr g e).2 hg2), h.rq.kept hg (fun g hg2 e => by have := h.aq g hg2; have := hr g e; omega), fun s ns m => (h.dn s ns m).keep (Kp.of_grown2 hg (fun b hb e => by have := hr b e.symm; have := hb.1; omega)), h.aq, h.bw.grown hg h.bw.size (fun q e => by have := hr q e; omega), Nat.le_trans hzW hg.size, hzB, fun k hk => ?_⟩
 obtain ⟨a1, a2, a3, a4, a5⟩ := h.ot k hk
 exact ⟨a1, a2, a3, a4, (hg.block k (by omega) (fun e => by have := hr k e.symm; omega)).trans a5⟩
theorem OfL.add {v' : Value} {rs' : List Rd} (h : OfL w O Wr z hs vq done rs v9 W) (h1 : Bx W' (w.heap.size + 3) [v']) (h2 : Owns W' (w.heap.size + 5) 130 5 Rd.enc v' rs') (h3 : v'.ownBlock = v9.ownBlock ∨ v'.ownBlock = some W.heap.size)
 (hsz : W.heap.size ≤ W'.heap.size) (ho : W'.os = W.os ∧ W'.tape = W.tape ∧ W'.output = W.output) (hk : ∀ k, k < W.heap.size → k ≠ w.heap.size + 3 → v9.ownBlock ≠ some k → W'.heap[k]? = W.heap[k]?) : OfL w O Wr z hs vq done rs' v' W' := by
 have hzB := h.zB
 have hzW := h.zW
 have hne : ∀ k, k < W.heap.size → v9.ownBlock ≠ some k → v'.ownBlock ≠ some k := fun k hl hn e => by
  rcases h3 with h3 | h3
  ·exact hn (h3 ▸ e)
  ·rw [h3] at e; cases e; omega
 have hrd := h.rd.base_le
 refine ⟨h1, h2, h.rq.same (fun k e => hk k (by have := h.aq k e; omega) (by have := h.rq.base_le k e; omega) (h.aq k e).2), fun s ns m => ((h.dn s ns m).keep ⟨hsz, fun b hb hl => hk b hl (by have := hb.2.1; omega) hb.2.2.1⟩).mono (fun b hb => ⟨hb.1, hb.2.1, hne b (by have := hb.1; omega) hb.2.2.1, hb.2.2.2⟩), fun k e => ⟨(h.aq k e).1, hne k (by have := h.aq k e; omega) (h.aq k e).2⟩,
  ⟨ho.1.trans h.bw.os, ho.2.1.trans h.bw.tape, ho.2.2.trans h.bw.output, Nat.le_trans h.bw.size hsz, fun k hl => (hk k (Nat.lt_of_lt_of_le hl h.bw.size) (by omega) (fun e => by have := hrd k e; omega)).trans (h.bw.block k hl)⟩, Nat.le_trans hzW hsz, hzB, fun k hO => ?_⟩
 obtain ⟨a1, a2, a3, a4, a5⟩ := h.ot k hO
 exact ⟨a1, a2, hne k (by omega) a3, a4, (hk k (by omega) a2 a3).trans a5⟩
theorem OfL.store {g i : Nat} {hs' : List RqH} {s : Sl} {ns : List Int} (h : OfL w O Wr z hs vq done rs v9 W) (hg : vq.ownBlock = some g) (u : Value) (hq : Owns (W.setCell ⟨g, i, none⟩ u) (w.heap.size + 5) 67 6 RqH.enc vq hs') (hn : SlR W (fun b => b < z ∧ w.heap.size + 5 ≤ b ∧ v9.ownBlock ≠ some b ∧ vq.ownBlock ≠ some b) 1 intE s ns) :
 OfL w O Wr z hs' vq (done ++ [(s, ns)]) rs v9 (W.setCell ⟨g, i, none⟩ u) := by
 have hgb := h.rq.base_le g hg
 have hga := h.aq g hg
 have hne : ∀ k, k ≠ g → (W.setCell ⟨g, i, none⟩ u).heap[k]? = W.heap[k]? := fun k hk => Below.heap_setCell _ _ _ _ (by first | exact hk | exact hk.symm)
 have hsz : W.heap.size ≤ (W.setCell ⟨g, i, none⟩ u).heap.size := by simp [World.setCell]
 refine ⟨h.br.farC (by show w.heap.size + 3 ≠ g; omega) _, h.rd.same (fun k e => hne k (fun e2 => hga.2 (e2 ▸ e))), hq, fun s2 ns2 m => ?_, h.aq, h.bw.setCell (by show w.heap.size ≤ g; omega) _, Nat.le_trans h.zW hsz, h.zB, fun k hk => ?_⟩
 ·have kp : ∀ {s3 : Sl} {ns3 : List Int}, SlR W (fun b => b < z ∧ w.heap.size + 5 ≤ b ∧ v9.ownBlock ≠ some b ∧ vq.ownBlock ≠ some b) 1 intE s3 ns3 → SlR (W.setCell ⟨g, i, none⟩ u) (fun b => b < z ∧ w.heap.size + 5 ≤ b ∧ v9.ownBlock ≠ some b ∧ vq.ownBlock ≠ some b) 1 intE s3 ns3 := fun h3 => h3.keep ⟨hsz, fun b hb _ => hne b (fun e => hb.2.2.2 (e ▸ hg))⟩
  rcases List.mem_append.1 m with m | m
  ·exact kp (h.dn s2 ns2 m)
  ·simp only [List.mem_singleton, Prod.mk.injEq] at m
   obtain ⟨rfl, rfl⟩ := m
   exact kp hn
 ·obtain ⟨a1, a2, a3, a4, a5⟩ := h.ot k hk
  exact ⟨a1, a2, a3, a4, (hne k (fun e => a4 (e ▸ hg))).trans a5⟩
end
def hsOf (hs : List RqH) (done : List (Sl × List Int)) : List RqH := hs.mapIdx (fun i h => match done[i]? with | some p => { h with fr := p.1 } | none => h)
theorem hsOf_nil (hs : List RqH) : hsOf hs [] = hs := by
 unfold hsOf
 apply List.ext_getElem?
 intro i
 rw [List.getElem?_mapIdx]
 cases hs[i]? <;> simp
theorem hsOf_len (hs : List RqH) (done : List (Sl × List Int)) : (hsOf hs done).length = hs.length := by simp [hsOf]
theorem hsOf_at (hs : List RqH) (done : List (Sl × List Int)) (k : Nat) (hk : done.length = k) (x : RqH) (h : hs[k]? = some x) : (hsOf hs done)[k]? = some x := by
 unfold hsOf
 rw [List.getElem?_mapIdx, h, List.getElem?_eq_none (by omega)]
 rfl
theorem hsOf_set (hs : List RqH) (done : List (Sl × List Int)) (k : Nat) (hk : done.length = k) (x : RqH) (h : hs[k]? = some x) (s : Sl) (ns : List Int) : hsOf hs (done ++ [(s, ns)]) = (hsOf hs done).set k { x with fr := s } := by
 apply List.ext_getElem?
 intro i
 have hkl := (List.getElem?_eq_some_iff.1 h).1
 rw [List.getElem?_set, hsOf_len]
 unfold hsOf
 rw [List.getElem?_mapIdx, List.getElem?_mapIdx]
 by_cases e : k = i
 ·subst e
  rw [if_pos rfl, if_pos hkl, h, ← hk]
  simp
 ·rw [if_neg e]
  by_cases e2 : i < done.length
  ·rw [List.getElem?_append_left e2]
  ·rw [List.getElem?_append_right (by omega), List.getElem?_eq_none (l := done) (by omega), List.getElem?_eq_none (by simp; omega)]
end Go.Proofs.YtalmbigebjbaoaaGreatDoor
namespace Go.Proofs.YtalmbigebjbaoaaGreatDoor
open Go.RowKit Go.Shelf
set_option linter.unusedSimpArgs false
set_option linter.unusedVariables false
attribute [local go_sem] Oper.semAt_some
def newFr (fs : List Fc) (term known : Int) (fr : List Int) : List Int := cmpL (sortI (fr.flatMap (fun c => eqF fs c term known)))
def wideP (fs : List Fc) (term known : Int) (p : Pg) : Pg := { p with reqs := p.reqs.map (fun q => { q with fr := newFr fs term known q.fr }) }
def OfOut (d : Wd) (student num term known : Int) (w w' : World) (e : Ending) : Prop :=
 (∃ (v : Value) (code : Int), e = .returned (.tuple #[.agg #[.slice none 0 0, .int .i64 0, .slice none 0 0], .bool false, v, .int .i64 code]) ∧ (progF d num term known = none ∨ code ≠ 0)) ∨
 (∃ x, progF d num term known = some x ∧ ofB student term = true ∧ (cntE d student term known (ofR d student term known)).2 = 0 ∧ (earnedA (cntE d student term known (ofR d student term known)).1).2 = 0 ∧ (meanA (cntE d student term known (ofR d student term known)).1).2 = 0 ∧ (cmpP (meanA (cntE d student term known (ofR d student term known)).1).1 x.p.mean).2 = 0 ∧
   ∃ (us : List Us) (M : Int) (cs : List Bool) (D C : Option Addr) (dd cc : Nat) (v : Value), e = .returned (.tuple #[auV ⟨D, us.length, dd⟩ M ⟨C, cs.length, cc⟩, .bool (decide (M = 0) && (decide (x.p.earn ≤ (earnedA (cntE d student term known (ofR d student term known)).1).1) && decide (0 ≤ (cmpP (meanA (cntE d student term known (ofR d student term known)).1).1 x.p.mean).1))), v, .int .i64 0]) ∧
     UOk (wideP d.fs term known x.p) (cntE d student term known (ofR d student term known)).1 us ∧ auditE (wideP d.fs term known x.p) (cntE d student term known (ofR d student term known)).1 us M cs = 0 ∧ M = totR x.p.reqs - usT us ∧ us.length ≤ 65536 ∧ (cntE d student term known (ofR d student term known)).1.length ≤ 5000 ∧
     SlR w' (fun b => w.heap.size ≤ b) 3 Us.enc ⟨D, us.length, dd⟩ us ∧ SlR w' (fun _ => True) 1 boolE ⟨C, cs.length, cc⟩ cs)
def sixW (W : World) (bA bC bR bE : Nat) (a0 a1 a2 c r e : Value) : World := ((((((W.setCell ⟨bA, 0, none⟩ a0).setCell ⟨bA, 1, none⟩ a1).setCell ⟨bA, 2, none⟩ a2).setCell ⟨bC, 0, none⟩ c).setCell ⟨bR, 0, none⟩ r).setCell ⟨bE, 0, none⟩ e).drew
theorem Bx.drew_ {W : World} {b : Nat} {cs : List Value} (h : Bx W b cs) : Bx W.drew b cs := h
set_option maxHeartbeats 4000000 in
theorem six_set {W : World} {bA bC bR bE : Nat} {x0 x1 x2 y z u : Value} (hA : Bx W bA [x0, x1, x2]) (hC : Bx W bC [y]) (hR : Bx W bR [z]) (hE : Bx W bE [u]) (h1 : bA < bC) (h2 : bC < bR) (h3 : bR < bE) (a0 a1 a2 c r e : Value) :
 Bx (sixW W bA bC bR bE a0 a1 a2 c r e) bA [a0, a1, a2] ∧ Bx (sixW W bA bC bR bE a0 a1 a2 c r e) bC [c] ∧ Bx (sixW W bA bC bR bE a0 a1 a2 c r e) bR [r] ∧ Bx (sixW W bA bC bR bE a0 a1 a2 c r e) bE [e] ∧ (∀ B, B ≤ bA → Below B W (sixW W bA bC bR bE a0 a1 a2 c r e)) ∧ (sixW W bA bC bR bE a0 a1 a2 c r e).heap.size = W.heap.size ∧
  ∀ k, k ≠ bA → k ≠ bC → k ≠ bR → k ≠ bE → (sixW W bA bC bR bE a0 a1 a2 c r e).heap[k]? = W.heap[k]? := by
 unfold sixW
 refine ⟨Bx.drew_ ?_, Bx.drew_ ?_, Bx.drew_ ?_, Bx.drew_ ?_, fun B hB => ?_, ?_, fun k k1 k2 k3 k4 => ?_⟩
 ·have e1 : Bx (W.setCell ⟨bA, 0, none⟩ a0) bA [a0, x1, x2] := hA.setAt (i := 0) (by simp) a0
  have e2 : Bx ((W.setCell ⟨bA, 0, none⟩ a0).setCell ⟨bA, 1, none⟩ a1) bA [a0, a1, x2] := e1.setAt (i := 1) (by simp) a1
  have e3 : Bx (((W.setCell ⟨bA, 0, none⟩ a0).setCell ⟨bA, 1, none⟩ a1).setCell ⟨bA, 2, none⟩ a2) bA [a0, a1, a2] := e2.setAt (i := 2) (by simp) a2
  have e4 := e3.farC (a := ⟨bC, 0, none⟩) (by show bA ≠ bC; omega) c
  have e5 := e4.farC (a := ⟨bR, 0, none⟩) (by show bA ≠ bR; omega) r
  exact e5.farC (a := ⟨bE, 0, none⟩) (by show bA ≠ bE; omega) e
 ·have e1 := hC.farC (a := ⟨bA, 0, none⟩) (by show bC ≠ bA; omega) a0
  have e2 := e1.farC (a := ⟨bA, 1, none⟩) (by show bC ≠ bA; omega) a1
  have e3 := e2.farC (a := ⟨bA, 2, none⟩) (by show bC ≠ bA; omega) a2
  have e4 := e3.set1 c
  have e5 := e4.farC (a := ⟨bR, 0, none⟩) (by show bC ≠ bR; omega) r
  exact e5.farC (a := ⟨bE, 0, none⟩) (by show bC ≠ bE; omega) e
 ·have e1 := hR.farC (a := ⟨bA, 0, none⟩) (by show bR ≠ bA; omega) a0
  have e2 := e1.farC (a := ⟨bA, 1, none⟩) (by show bR ≠ bA; omega) a1
  have e3 := e2.farC (a := ⟨bA, 2, none⟩) (by show bR ≠ bA; omega) a2
  have e4 := e3.farC (a := ⟨bC, 0, none⟩) (by show bR ≠ bC; omega) c
  have e5 := e4.set1 r
  exact e5.farC (a := ⟨bE, 0, none⟩) (by show bR ≠ bE; omega) e
 ·have e1 := hE.farC (a := ⟨bA, 0, none⟩) (by show bE ≠ bA; omega) a0
  have e2 := e1.farC (a := ⟨bA, 1, none⟩) (by show bE ≠ bA; omega) a1
  have e3 := e2.farC (a := ⟨bA, 2, none⟩) (by show bE ≠ bA; omega) a2
  have e4 := e3.farC (a := ⟨bC, 0, none⟩) (by show bE ≠ bC; omega) c
  have e5 := e4.farC (a := ⟨bR, 0, none⟩) (by show bE ≠ bR; omega) r
  exact e5.set1 e
 ·have e1 := (Below.refl B W).setCell (p := ⟨bA, 0, none⟩) (by show B ≤ bA; omega) a0
  have e2 := e1.setCell (p := ⟨bA, 1, none⟩) (by show B ≤ bA; omega) a1
  have e3 := e2.setCell (p := ⟨bA, 2, none⟩) (by show B ≤ bA; omega) a2
  have e4 := e3.setCell (p := ⟨bC, 0, none⟩) (by show B ≤ bC; omega) c
  have e5 := e4.setCell (p := ⟨bR, 0, none⟩) (by show B ≤ bR; omega) r
  exact (e5.setCell (p := ⟨bE, 0, none⟩) (by show B ≤ bE; omega) e).drew
 ·simp [World.setCell]
 ·have st : ∀ (X : World) (b o : Nat) (v : Value), k ≠ b → (X.setCell ⟨b, o, none⟩ v).heap[k]? = X.heap[k]? := fun X b o v hk => Below.heap_setCell _ _ _ _ (by first | exact hk | exact hk.symm)
  show (World.setCell _ ⟨bE, 0, none⟩ e).heap[k]? = _
  rw [st _ _ _ _ k4, st _ _ _ _ k3, st _ _ _ _ k2, st _ _ _ _ k1, st _ _ _ _ k1, st _ _ _ _ k1]
set_option maxRecDepth 100000 in
set_option maxHeartbeats 16000000 in
theorem dgOf_none {n₀ : Nat} (d : Wd) (student num term known : Int) (w : World) (hd : d.Ok w (fun k => k < n₀)) (hki : KindsAt w) (h0 : 0 < n₀) (hn : n₀ ≤ w.heap.size) (hf : d.fs.length ≤ 100) (hfw : ∀ x ∈ d.cs, Cr.Few x) (hv : ∀ f ∈ d.fs, f.val ≤ 9223372036854775807)
 (hpf : progF d num term known = none) :
 Calls Tryz.prog 6 #[d.v, .int .i64 student, .int .i64 num, .int .i64 term, .int .i64 known] w fun e w' => OfOut d student num term known w w' e ∧ Below w.heap.size w w' := by
 have HD := Lib.hid hd
 have HKI := Lib.hid hki
 have hmf : ∀ (fn : Fn) (first cap : Array Value) (w : World), (Instr.makeFunc fn first cap).run Tryz.prog w = .ok (.func fn first cap) w := fun _ _ _ _ => rfl
 unfold Wd.v
 clear hd hki
 refine (callsIn_wide (n := 6)).1 ?_
 refine callsIn_of_wp_marks Tryz.func6 rfl trivial ?_ rfl
 simp only [Tryz.ntmps6, List.size_toArray, List.length_cons, List.length_nil, Nat.reduceAdd, Nat.reduceSub, Array.replicate_succ, Array.replicate_zero, List.push_toArray, List.append_toArray, List.nil_append, List.cons_append]
 refine wpIn_wide.2 ?_
 go_wp2_with fail
 obtain ⟨W1, hW1⟩ : ∃ X, X = ((((w.alloc (.cells #[.slice d.c.a d.c.n d.c.c, .slice d.p.a d.p.n d.p.c, .slice d.y.a d.y.n d.y.c, .slice d.f.a d.f.n d.f.c] 29)).alloc (.cells #[.slice none 0 0, .int .i64 0, .slice none 0 0] 35)).alloc (.cells #[.bool false] 4)).alloc (.cells #[.slice none 0 0] 36)).alloc (.cells #[.int .i64 0] 37) := ⟨_, rfl⟩
 have q0 : Bx W1 w.heap.size d.enc := by rw [hW1]; exact ((((Bx.new w d.enc _).alloc _).alloc _).alloc _).alloc _
 have q1 : Bx W1 (w.heap.size + 1) [.slice none 0 0, .int .i64 0, .slice none 0 0] := by rw [hW1]; exact (((Bx.at_ _ [.slice none 0 0, .int .i64 0, .slice none 0 0] _ _ (by simp)).alloc _).alloc _).alloc _
 have q2 : Bx W1 (w.heap.size + 2) [.bool false] := by rw [hW1]; exact ((Bx.at_ _ [.bool false] _ _ (by simp)).alloc _).alloc _
 have q3 : Bx W1 (w.heap.size + 3) [.slice none 0 0] := by rw [hW1]; exact (Bx.at_ _ [.slice none 0 0] _ _ (by simp)).alloc _
 have q4 : Bx W1 (w.heap.size + 4) [.int .i64 0] := by rw [hW1]; exact Bx.at_ _ [.int .i64 0] _ _ (by simp)
 have hz1 : W1.heap.size = w.heap.size + 5 := by rw [hW1]; simp
 have hb1 : Below w.heap.size w W1 := by
  rw [hW1]
  exact (((((Below.refl _ w).alloc (Nat.le_refl _) _).alloc (by simp) _).alloc (by simp; omega) _).alloc (by simp; omega) _).alloc (by simp; omega) _
 obtain ⟨b5, hb5⟩ : ∃ b, b = w.heap.size := ⟨_, rfl⟩
 obtain ⟨bA, hbA⟩ : ∃ b, b = w.heap.size + 1 := ⟨_, rfl⟩
 obtain ⟨bC, hbC⟩ : ∃ b, b = w.heap.size + 1 + 1 := ⟨_, rfl⟩
 obtain ⟨bR, hbR⟩ : ∃ b, b = w.heap.size + 1 + 1 + 1 := ⟨_, rfl⟩
 obtain ⟨bE, hbE⟩ : ∃ b, b = w.heap.size + 1 + 1 + 1 + 1 := ⟨_, rfl⟩
 have HQ : Hid (b5 = w.heap.size ∧ bA = w.heap.size + 1 ∧ bC = w.heap.size + 2 ∧ bR = w.heap.size + 3 ∧ bE = w.heap.size + 4) := Lib.hid ⟨hb5, hbA, hbC, hbR, hbE⟩
 rw [← hW1, ← hbE, ← hbR, ← hbC, ← hbA]
 rw [← hb5] at q0
 rw [← hbA] at q1
 rw [show w.heap.size + 2 = bC by omega] at q2
 rw [show w.heap.size + 3 = bR by omega] at q3
 rw [show w.heap.size + 4 = bE by omega] at q4
 have H0 := Lib.hid q0
 have HA := Lib.hid q1
 have HC := Lib.hid q2
 have HR := Lib.hid q3
 have HE := Lib.hid q4
 have HB := Lib.hid hb1
 have HZ := Lib.hid hz1
 have HPG := Lib.hid (bkProgramme_any d num term known W1 (HD.out.step hb1) (by omega))
 obtain ⟨J, hJ⟩ : ∃ J : Ending → World → Prop, J = fun e w' => OfOut d student num term known w w' e ∧ Below w.heap.size w w' := ⟨_, rfl⟩
 clear hW1 hb5 hbA hbC hbR hbE q0 q1 q2 q3 q4 hb1 hz1
 ·have HPF := Lib.hid hpf
  rw [hpf] at HPG
  refine HPG.out.mono ?_
  clear hpf
  rintro e w2 ⟨⟨s, rfl, xs, hs, hxl⟩, hb2⟩
  obtain ⟨sA, sn, sc⟩ := s
  have hsn : sn = xs.length := hs.1
  subst hsn
  have HS := Lib.hid hs
  have HB2 := Lib.hid hb2
  clear hs hb2
  go_wp2_with fail
  obtain ⟨W3, hW3⟩ : ∃ X, X = w2.alloc (.cells #[.string ⟨#[]⟩, .int .i64 0, .int .i64 0, .int .i64 0, .int .i64 0, .int .i64 0, .slice none 0 0] 44) := ⟨_, rfl⟩
  have hb3 : Below W1.heap.size W1 W3 := by rw [hW3]; exact HB2.out.alloc HB2.out.size _
  have hst : Below w2.heap.size w2 W3 := by rw [hW3]; exact (Below.refl _ _).alloc (Nat.le_refl _) _
  rw [← hW3]
  have HB3 := Lib.hid hb3
  have HAD := Lib.hid (ofAdd_any bR (w.heap.size + 5) (.slice none 0 0) [] xs sA sc W3 (HR.out.step hb3) (by have := HQ.out; omega) (Owns.nil_ _ _ _ _ _) ((HS.out.step hst).reads) HS.out.2.2.2.1 (by simp; omega) (by have := hb3.size; have := HZ.out; omega))
  clear hW3 hb3 hst
  refine HAD.out.mono ?_
  rintro e w4 ⟨rfl, v', hR4, hO4, hown, hsz, hos, htp, hou, hblk⟩
  have hz3 := HB3.out.size
  have HBB : Hid (∀ k, k < w.heap.size + 5 → k ≠ bR → w4.heap[k]? = W1.heap[k]?) := Lib.hid (fun k hk hne => (hblk k (by have := HZ.out; omega) hne (by simp [Value.ownBlock])).trans (HB3.out.block k (by have := HZ.out; omega)))
  have hz4 : w.heap.size + 5 ≤ w4.heap.size := by have := HZ.out; omega
  have HW4 : Hid (Below w.heap.size w w4) := Lib.hid ⟨hos.trans (HB3.out.os.trans HB.out.os), htp.trans (HB3.out.tape.trans HB.out.tape), hou.trans (HB3.out.output.trans HB.out.output), by omega, fun k hk => (HBB.out k (by omega) (by have := HQ.out; omega)).trans (HB.out.block k hk)⟩
  have kpt : ∀ {b : Nat} {cs : List Value}, Bx W1 b cs → b < w.heap.size + 5 → b ≠ bR → Bx w4 b cs := fun {b cs} hx hl hne => hx.keep (P := fun y => y = b) ⟨by have := HZ.out; omega, fun k e _ => by subst e; exact HBB.out k hl hne⟩ rfl
  have HA4 := Lib.hid (kpt HA.out (by have := HQ.out; omega) (by have := HQ.out; omega))
  have HC4 := Lib.hid (kpt HC.out (by have := HQ.out; omega) (by have := HQ.out; omega))
  have HE4 := Lib.hid (kpt HE.out (by have := HQ.out; omega) (by have := HQ.out; omega))
  have HR4 := Lib.hid hR4
  obtain ⟨Av, cv, rfl, _, _⟩ := hO4.shape
  obtain ⟨x0, x1, x2⟩ := HA4.out
  obtain ⟨y0, y1, y2⟩ := HC4.out
  obtain ⟨z0, z1, z2⟩ := HR4.out
  obtain ⟨u0, u1, u2⟩ := HE4.out
  have p0 := x0 0 _ rfl
  have p1 := x0 1 _ rfl
  have p2 := x0 2 _ rfl
  have f0 := x1 0
  have f1 := x1 1
  have f2 := x1 2
  have p3 := y0 0 _ rfl
  have f3 := y1 0
  have p4 := z0 0 _ rfl
  have f4 := z1 0
  have p5 := u0 0 _ rfl
  have f5 := u1 0
  have n1 : bA ≠ bC := by have := HQ.out; omega
  have n2 : bA ≠ bR := by have := HQ.out; omega
  have n3 : bA ≠ bE := by have := HQ.out; omega
  have n4 : bC ≠ bR := by have := HQ.out; omega
  have n5 : bC ≠ bE := by have := HQ.out; omega
  have n6 : bR ≠ bE := by have := HQ.out; omega
  clear x0 x1 y0 y1 z0 z1 u0 u1 hR4 hO4 hown hos htp hou hblk kpt hsz
  go_upto_region 6 with fail
  go_region
  obtain ⟨W6, hW6⟩ : ∃ X, X = sixW w4 bA bC bR bE (.slice none 0 0) (.int .i64 0) (.slice none 0 0) (.bool false) (.slice Av xs.length cv) (.int .i64 0) := ⟨_, rfl⟩
  obtain ⟨g1, g2, g3, g4, g5, g6, g7⟩ := six_set HA4.out HC4.out HR4.out HE4.out (by have := HQ.out; omega) (by have := HQ.out; omega) (by have := HQ.out; omega) (.slice none 0 0) (.int .i64 0) (.slice none 0 0) (.bool false) (.slice Av xs.length cv) (.int .i64 0)
  rw [← hW6] at g1 g2 g3 g4 g5
  have HG := Lib.hid (And.intro g1 (And.intro g2 (And.intro g3 (And.intro g4 g5))))
  change Exit.then _ _ _ _ (sixW w4 bA bC bR bE (.slice none 0 0) (.int .i64 0) (.slice none 0 0) (.bool false) (.slice Av xs.length cv) (.int .i64 0))
  rw [← hW6]
  clear hW6 g1 g2 g3 g4 g5 g6 g7 p0 p1 p2 p3 p4 p5 f0 f1 f2 f3 f4 f5
  go_wp2_with fail
  refine ⟨by simp, .inr ⟨fun h => by simp [Fence.wide] at h, _, _, 19, #[.pointer (some ⟨bA, 0, none⟩), .pointer (some ⟨bC, 0, none⟩), .pointer (some ⟨bR, 0, none⟩), .pointer (some ⟨bE, 0, none⟩)], rfl, rfl, fun _ _ => trivial, (of_idle 5 _ _ _ _ _).mono ?_⟩⟩
  rintro e u' w9 ⟨rfl, rfl, rfl⟩
  obtain ⟨g1, g2, g3, g4, g5⟩ := HG.out
  have k0 := g1.1 0 _ rfl
  have k1 := g1.1 1 _ rfl
  have k2 := g1.1 2 _ rfl
  have k3 := g2.1 0 _ rfl
  have k4 := g3.1 0 _ rfl
  have k5 := g4.1 0 _ rfl
  show LeavesInM _ _ _ _ _ _ [] (settle .returning) _
  refine ⟨.tuple #[.agg #[.slice none 0 0, .int .i64 0, .slice none 0 0], .bool false, .slice Av xs.length cv, .int .i64 0], by simp [results, Tryz.results6, go_sem, k0, k1, k2, k3, k4, k5], ?_, ?_⟩
  ·exact .inl ⟨_, 0, rfl, .inl HPF.out⟩
  ·exact HW4.out.trans (g5 _ (by have := HQ.out; omega))
end Go.Proofs.YtalmbigebjbaoaaGreatDoor
