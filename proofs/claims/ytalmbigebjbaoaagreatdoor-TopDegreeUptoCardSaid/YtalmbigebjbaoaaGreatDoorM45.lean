/- TopDegree, what its proof leans on: the texts TpL. -/
import Derived.Test.YtalmbigebjbaoaaGreatDoorM44
import Derived.Test.YtalmbigebjbaoaaGreatDoorM24
import Derived.Deep.CutBlock
import Derived.Deep.CutRange
import Derived.BigRegion
namespace Go.Proofs.YtalmbigebjbaoaaGreatDoor
open Go.RowKit Go.Shelf
set_option linter.unusedSimpArgs false
set_option linter.unusedVariables false
attribute [local go_sem] Oper.semAt_some
theorem OfL.rebase {w Wr W : World} {O O' : Nat → Prop} {z z' : Nat} {hs : List RqH} {vq : Value} {done : List (Sl × List Int)} {rs : List Rd} {v9 : Value} (h : OfL w O Wr z hs vq done rs v9 W) (h1 : z ≤ z') (h2 : z' ≤ W.heap.size)
 (ho : ∀ k, O' k → k < z' ∧ k ≠ w.heap.size + 3 ∧ v9.ownBlock ≠ some k ∧ vq.ownBlock ≠ some k) : OfL w O' W z' hs vq done rs v9 W :=
 ⟨h.br, h.rd, h.rq, (h.raise h1 h2).dn, (h.raise h1 h2).aq, h.bw, h2, Nat.le_trans h.zB h1, fun k hk => by obtain ⟨a1, a2, a3, a4⟩ := ho k hk; exact ⟨a1, a2, a3, a4, rfl⟩⟩
theorem OfL.own {w Wr W : World} {O : Nat → Prop} {z : Nat} {rs : List Rd} {v9 vq : Value} {hs : List RqH} {W' : World} (h : OfL w O Wr z [] (.slice none 0 0) [] rs v9 W) (hb : Below W.heap.size W W') (hq : Owns W' W.heap.size 67 6 RqH.enc vq hs) : OfL w O Wr W'.heap.size hs vq [] rs v9 W' := by
 have h2 := h.step hb
 have h3 := h2.raise h2.zW (Nat.le_refl _)
 refine ⟨h3.br, h3.rd, Owns.base' hq (Nat.le_trans h.zB h.zW), fun s ns m => by simp at m, fun k e => ⟨hq.lt k e, fun e2 => by have := hq.base_le k e; have := h.rd.lt k e2; omega⟩, h3.bw, h3.zW, h3.zB, fun k hk => ?_⟩
 obtain ⟨a1, a2, a3, _, a5⟩ := h.ot k hk
 exact ⟨Nat.lt_of_lt_of_le a1 h2.zW, a2, a3, fun e => by have := hq.base_le k e; have := h.zW; omega, (h2.ot k hk).2.2.2.2⟩
theorem OfL.setBox {w Wr W : World} {O : Nat → Prop} {z : Nat} {rs : List Rd} {v9 vq : Value} {hs : List RqH} (h : OfL w O Wr z hs vq [] rs v9 W) {b i : Nat} (u : Value) (h1 : w.heap.size ≤ b) (h2 : b ≠ w.heap.size + 3) (h3 : v9.ownBlock ≠ some b) (h4 : vq.ownBlock ≠ some b) (h5 : ¬ O b) : OfL w O Wr z hs vq [] rs v9 (W.setCell ⟨b, i, none⟩ u) := by
 have hne : ∀ k, k ≠ b → (W.setCell ⟨b, i, none⟩ u).heap[k]? = W.heap[k]? := fun k hk => Below.heap_setCell _ _ _ _ (by first | exact hk | exact hk.symm)
 have hsz : W.heap.size ≤ (W.setCell ⟨b, i, none⟩ u).heap.size := by simp [World.setCell]
 refine ⟨h.br.farC (by show w.heap.size + 3 ≠ b; omega) _, h.rd.same (fun k e => hne k (fun e2 => h3 (e2 ▸ e))), h.rq.same (fun k e => hne k (fun e2 => h4 (e2 ▸ e))), fun s ns m => by simp at m, h.aq, h.bw.setCell (by show w.heap.size ≤ b; omega) _, Nat.le_trans h.zW hsz, h.zB, fun k hk => ?_⟩
 obtain ⟨a1, a2, a3, a4, a5⟩ := h.ot k hk
 exact ⟨a1, a2, a3, a4, (hne k (fun e => h5 (e ▸ hk))).trans a5⟩
theorem OfL.bx {w Wr W : World} {O : Nat → Prop} {z : Nat} {hs : List RqH} {vq : Value} {done : List (Sl × List Int)} {rs : List Rd} {v9 : Value} (h : OfL w O Wr z hs vq done rs v9 W) {b : Nat} {cs : List Value} (hx : Bx Wr b cs) (hO : O b) : Bx W b cs := by
 obtain ⟨a1, _, _, _, a5⟩ := h.ot b hO
 obtain ⟨x0, x1, x2⟩ := hx
 exact ⟨fun i v e => (World.cell?_of_block (a := ⟨b, i, none⟩) a5).trans (x0 i v e), fun i => (World.frozen?_of_block (a := ⟨b, i, none⟩) a5).trans (x1 i), Nat.lt_of_lt_of_le a1 h.zW⟩
theorem OfL.owns {w Wr W : World} {O : Nat → Prop} {z : Nat} {hs : List RqH} {vq : Value} {done : List (Sl × List Int)} {rs : List Rd} {v9 : Value} (h : OfL w O Wr z hs vq done rs v9 W) {α : Type} {B sz : Nat} {e : TypeId} {en : α → List Value} {v : Value} {ys : List α} (hx : Owns Wr B e sz en v ys) (hO : ∀ k, v.ownBlock = some k → O k) : Owns W B e sz en v ys :=
 hx.same (fun k e => (h.ot k (hO k e)).2.2.2.2)
theorem OfL.back {w Wr W W1 : World} {O O' : Nat → Prop} {z : Nat} {hs : List RqH} {vq : Value} {done : List (Sl × List Int)} {rs : List Rd} {v9 : Value} (h : OfL w O' W1 z hs vq done rs v9 W) (hO : ∀ k, O k → O' k) (h1 : ∀ k, O k → W1.heap[k]? = Wr.heap[k]?) : OfL w O Wr z hs vq done rs v9 W :=
 ⟨h.br, h.rd, h.rq, h.dn, h.aq, h.bw, h.zW, h.zB, fun k hk => by obtain ⟨a1, a2, a3, a4, a5⟩ := h.ot k (hO k hk); exact ⟨a1, a2, a3, a4, a5.trans (h1 k hk)⟩⟩
structure OfM (w : World) (O : Nat → Prop) (Wr : World) (z : Nat) (hs : List RqH) (vq : Value) (done : List (Sl × List Int)) (rs : List Rd) (v9 : Value) (ys : List Int) (v23 : Value) (W : World) : Prop where
 l : OfL w O Wr z hs vq done rs v9 W
 fr : Owns W z 3 1 intE v23 ys
 ap : ∀ k, v23.ownBlock = some k → v9.ownBlock ≠ some k
section
variable {w Wr W W' : World} {O : Nat → Prop} {z : Nat} {hs : List RqH} {vq : Value} {done : List (Sl × List Int)} {rs : List Rd} {v9 : Value} {ys : List Int} {v23 : Value}
theorem OfM.step (h : OfM w O Wr z hs vq done rs v9 ys v23 W) (hb : Below W.heap.size W W') : OfM w O Wr z hs vq done rs v9 ys v23 W' :=
 ⟨h.l.step hb, h.fr.below hb (Nat.le_refl _), h.ap⟩
theorem OfM.add {v' : Value} {rs' : List Rd} (h : OfM w O Wr z hs vq done rs v9 ys v23 W) (h1 : Bx W' (w.heap.size + 3) [v']) (h2 : Owns W' (w.heap.size + 5) 130 5 Rd.enc v' rs') (h3 : v'.ownBlock = v9.ownBlock ∨ v'.ownBlock = some W.heap.size)
 (hsz : W.heap.size ≤ W'.heap.size) (ho : W'.os = W.os ∧ W'.tape = W.tape ∧ W'.output = W.output) (hk : ∀ k, k < W.heap.size → k ≠ w.heap.size + 3 → v9.ownBlock ≠ some k → W'.heap[k]? = W.heap[k]?) : OfM w O Wr z hs vq done rs' v' ys v23 W' := by
 have hzB := h.l.zB
 have hlt := h.fr.lt
 have hba := h.fr.base_le
 refine ⟨h.l.add h1 h2 h3 hsz ho hk, h.fr.same (fun k e => hk k (hlt k e) (by have := hba k e; omega) (h.ap k e)), fun k e e2 => ?_⟩
 rcases h3 with h3 | h3
 ·exact h.ap k e (h3 ▸ e2)
 ·rw [h3] at e2; cases e2; have := hlt _ e; omega
theorem OfM.app {v' : Value} {ys' : List Int} (h : OfM w O Wr z hs vq done rs v9 ys v23 W) (hg : W.grownBy W' v23.ownBlock) (ho : v'.ownBlock = v23.ownBlock ∨ v'.ownBlock = some W.heap.size) (hn : Owns W' z 3 1 intE v' ys') : OfM w O Wr z hs vq done rs v9 ys' v' W' := by
 refine ⟨h.l.grow hg (fun g e => ⟨h.fr.base_le g e, h.ap g e⟩), hn, fun k e e2 => ?_⟩
 rcases ho with ho | ho
 ·exact h.ap k (ho ▸ e) e2
 ·rw [ho] at e; cases e; have := h.l.rd.lt _ e2; omega
end
theorem flat_le {f : Int → List Int} {m : Nat} (hf : ∀ c, (f c).length ≤ m) : ∀ l : List Int, (l.flatMap f).length ≤ l.length * m
 | [] => by simp
 | c :: l => by
   have h1 := hf c
   have h2 := flat_le hf l
   simp only [List.flatMap_cons, List.length_append, List.length_cons, Nat.add_mul]
   omega
theorem flat_take {f : Int → List Int} (l : List Int) (j : Nat) (c : Int) (h : l[j]? = some c) : (l.take (j + 1)).flatMap f = (l.take j).flatMap f ++ f c := by
 have hl := (List.getElem?_eq_some_iff.1 h).1
 rw [List.take_succ_eq_append_getElem hl, (List.getElem?_eq_some_iff.1 h).2]
 simp
theorem SlR.of_own {α : Type} {w : World} {base sz : Nat} {e : TypeId} {en : α → List Value} {A : Option Addr} {n c : Nat} {xs : List α} (hen : ∀ y, (en y).length = sz) (h : Owns w base e sz en (.slice A n c) xs) : SlR w (fun b => (Value.slice A n c).ownBlock = some b) sz en ⟨A, n, c⟩ xs := by
 have h2 := SlR.of_owns hen h
 exact ⟨h2.1, h2.2.1, h2.2.2.1, h2.2.2.2.1, h2.2.2.2.2.1, fun hn a e => by simp only at e; subst e; rfl⟩
theorem Owns.cellF {W : World} {B b : Nat} {e : TypeId} {n c : Nat} {hs : List RqH} (h : Owns W B e 6 RqH.enc (.slice (some ⟨b, 0, none⟩) n c) hs) {k : Nat} {x : RqH} (hk : hs[k]? = some x) : W.cell? ⟨b, k * 6 + 5, none⟩ = some (.slice x.fr.a x.fr.n x.fr.c) := by
 have hkl := (List.getElem?_eq_some_iff.1 hk).1
 obtain ⟨b', o, hA, _, hc⟩ := h.reads RqH.enc_len (by omega)
 simp only [Option.some.injEq, Addr.mk.injEq, and_true] at hA
 obtain ⟨rfl, rfl⟩ := hA
 have := hc k x 5 _ hk rfl
 simpa using this
theorem own_len (A : Option Addr) (n m c : Nat) : (Value.slice A n c).ownBlock = (Value.slice A m c).ownBlock := by cases A <;> rfl
theorem grown_undrew {w w' : World} {row : Option Nat} (h : w.drew.grownBy w' row) : w.grownBy w' row := ⟨h.os, h.tape, h.output, h.size, h.block⟩
theorem hsOf_get (hs : List RqH) (done : List (Sl × List Int)) (i : Nat) (x : RqH) (p : Sl × List Int) (hx : hs[i]? = some x) (hp : done[i]? = some p) : (hsOf hs done)[i]? = some { x with fr := p.1 } := by
 unfold hsOf
 rw [List.getElem?_mapIdx, hx, hp]
 rfl
theorem OfL.rqs {w Wr W : World} {O : Nat → Prop} {z : Nat} {hs : List RqH} {A : Option Addr} {n c : Nat} {done : List (Sl × List Int)} {rs : List Rd} {v9 : Value} (h : OfL w O Wr z (hsOf hs done) (.slice A n c) done rs v9 W) {w0 : World} {P : Nat → Prop} {qs : List Rq} {f : List Int → List Int} (hl : hs.length = qs.length)
 (hat : ∀ (i : Nat) (x : RqH) (q : Rq), hs[i]? = some x → qs[i]? = some q → x.credits = q.credits ∧ x.grade = q.grade ∧ x.home = q.home ∧ SlR w0 P 1 intE x.fr q.fr) (hd : done.map Prod.snd = qs.map (fun q => f q.fr)) : Rqs W (fun _ => True) ⟨A, n, c⟩ (qs.map (fun q => { q with fr := f q.fr })) := by
 have hdl : done.length = qs.length := by have := congrArg List.length hd; simpa using this
 refine ⟨hsOf hs done, (SlR.of_owns RqH.enc_len h.rq).mono (fun _ _ => trivial), by rw [hsOf_len, hl, List.length_map], fun i y q' h1 h2 => ?_⟩
 rw [List.getElem?_map] at h2
 obtain ⟨q, hq, rfl⟩ := Option.map_eq_some_iff.1 h2
 have hi := (List.getElem?_eq_some_iff.1 hq).1
 have hx : hs[i]? = some (hs[i]'(by omega)) := List.getElem?_eq_getElem _
 have hp : done[i]? = some (done[i]'(by omega)) := List.getElem?_eq_getElem _
 rw [hsOf_get _ _ _ _ _ hx hp] at h1
 cases h1
 obtain ⟨a1, a2, a3, _⟩ := hat i _ q hx hq
 have h3 : (done.map Prod.snd)[i]? = (qs.map (fun q => f q.fr))[i]? := by rw [hd]
 rw [List.getElem?_map, List.getElem?_map, hp, hq] at h3
 simp only [Option.map_some, Option.some.injEq] at h3
 refine ⟨a1, a2, a3, ?_⟩
 have h4 := h.dn (done[i]'(by omega)).1 (done[i]'(by omega)).2 (List.getElem_mem _)
 rw [h3] at h4
 exact h4.mono (fun _ _ => trivial)
theorem cnt_le (d : Wd) (student term known : Int) (l : List At) : (cntE d student term known l).1.length ≤ l.length := by
 have h1 : ∀ rs, (countedA l rs).1.length ≤ l.length := fun rs => by
  unfold countedA countedL
  split
  ·simp
  ·split
   ·split
    ·simp only [List.length_map]
     exact Nat.le_trans (List.length_filter_le _ _) (by simp)
    ·simp
   ·simp
 unfold cntE
 split
 ·split
  ·exact h1 _
  ·simp
 ·simp
def thrW (W : World) (b : Nat) (a0 a1 a2 : Value) : World := ((W.setCell ⟨b, 0, none⟩ a0).setCell ⟨b, 1, none⟩ a1).setCell ⟨b, 2, none⟩ a2
theorem thr_set {W : World} {b : Nat} {x0 x1 x2 : Value} (h : Bx W b [x0, x1, x2]) (a0 a1 a2 : Value) : Bx (thrW W b a0 a1 a2) b [a0, a1, a2] ∧ (∀ B, B ≤ b → Below B W (thrW W b a0 a1 a2)) ∧ (thrW W b a0 a1 a2).heap.size = W.heap.size ∧ ∀ k, k ≠ b → (thrW W b a0 a1 a2).heap[k]? = W.heap[k]? := by
 unfold thrW
 have st : ∀ (X : World) (o k : Nat) (v : Value), k ≠ b → (X.setCell ⟨b, o, none⟩ v).heap[k]? = X.heap[k]? := fun X o k v hk => Below.heap_setCell _ _ _ _ (by first | exact hk | exact hk.symm)
 refine ⟨?_, fun B hB => ?_, by simp [World.setCell], fun k hk => by rw [st _ _ _ _ hk, st _ _ _ _ hk, st _ _ _ _ hk]⟩
 ·have e1 : Bx (W.setCell ⟨b, 0, none⟩ a0) b [a0, x1, x2] := h.setAt (i := 0) (by simp) a0
  have e2 : Bx ((W.setCell ⟨b, 0, none⟩ a0).setCell ⟨b, 1, none⟩ a1) b [a0, a1, x2] := e1.setAt (i := 1) (by simp) a1
  exact e2.setAt (i := 2) (by simp) a2
 ·exact (((Below.refl B W).setCell (p := ⟨b, 0, none⟩) hB a0).setCell (p := ⟨b, 1, none⟩) hB a1).setCell (p := ⟨b, 2, none⟩) hB a2
theorem Bx.else {W W' : World} {b : Nat} {cs : List Value} (h : Bx W b cs) (hs : W.heap.size ≤ W'.heap.size) (hk : W'.heap[b]? = W.heap[b]?) : Bx W' b cs := h.keep (P := fun y => y = b) ⟨hs, fun k e _ => by subst e; exact hk⟩ rfl
theorem cut_first {p : Pg} {l : List At} {us : List Us} {M : Int} {cs : List Bool} (h : auditE p l us M cs = 0) : cs[0]? = some true := by
 have h2 := (audit_parts h).2.2
 unfold boundP at h2
 split at h2
 ·split at h2
  ·rename_i _ hc
   simp only [okCut, Bool.and_eq_true, decide_eq_true_eq] at hc
   have h3 := hc.2.1
   rw [List.getD_eq_getElem?_getD] at h3
   cases h4 : cs[0]? with
   | none => rw [h4] at h3; cases h3
   | some b => rw [h4] at h3; simp at h3; rw [h3]
  ·injection h2 with _ h3; cases h3
 ·rename_i hne; injection h2 with _ h3; exact absurd h3 hne
theorem cut_apart {W : World} {C : Option Addr} {cc : Nat} {cs : List Bool} (h : SlR W (fun b => C = some ⟨b, 0, none⟩) 1 boolE ⟨C, cs.length, cc⟩ cs) (h1 : cs[0]? = some true) : ∃ Cb, C = some ⟨Cb, 0, none⟩ ∧ W.cell? ⟨Cb, 0, none⟩ = some (.bool true) ∧ SlR W (fun b => b = Cb) 1 boolE ⟨C, cs.length, cc⟩ cs := by
 have hl := (List.getElem?_eq_some_iff.1 h1).1
 obtain ⟨b, off, e, hlt, hc⟩ := h.2.2.2.2.1 hl
 have hP := h.2.2.2.2.2 hl _ e
 simp only at hP e
 rw [hP] at e
 simp only [Option.some.injEq, Addr.mk.injEq, and_true, true_and] at e
 have e0 : off = 0 := by first | exact e.symm | exact e
 have h0 := hc 0 true 0 _ h1 rfl
 rw [e0] at h0
 refine ⟨b, hP, by simpa using h0, h.mono (fun b' hb' => ?_)⟩
 rw [hP] at hb'
 simp only [Option.some.injEq, Addr.mk.injEq, and_true] at hb'
 exact hb'.symm
theorem meanA_i64_ (xs : List At) : (meanA xs).1.i64 := by
 unfold meanA
 split
 ·exact ⟨by unfold I64; decide, by unfold I64; decide⟩
 ·split
  ·exact ⟨by unfold I64; decide, by unfold I64; decide⟩
  ·unfold newP
   split
   ·exact ⟨by unfold I64; decide, by unfold I64; decide⟩
   ·split
    ·exact ⟨by unfold I64; decide, by unfold I64; decide⟩
    ·rename_i hd hl
     generalize (sP xs).natAbs / Nat.gcd (sP xs).natAbs (sC xs).natAbs = N at hl ⊢
     generalize (sC xs).natAbs / Nat.gcd (sP xs).natAbs (sC xs).natAbs = D at hl ⊢
     exact ⟨by unfold I64; simp only; split <;> omega, by unfold I64; simp only; omega⟩
theorem totR_map (f : List Int → List Int) : ∀ qs : List Rq, totR (qs.map (fun q => { q with fr := f q.fr })) = totR qs
 | [] => rfl
 | q :: l => by simp only [List.map_cons, totR, totR_map f l]
def S36 (bA bR bP : Nat) (a0 a1 a2 r pe : Value) (W6 : World) : Prop := W6.cell? ⟨bA, 0, none⟩ = some a0 ∧ W6.cell? ⟨bA, 1, none⟩ = some a1 ∧ W6.cell? ⟨bA, 2, none⟩ = some a2 ∧ W6.cell? ⟨bR, 0, none⟩ = some r ∧ W6.cell? ⟨bP, 3, none⟩ = some pe
theorem S36.of {bA bR bP : Nat} {a0 a1 a2 r pe : Value} {W6 : World} (h1 : Bx W6 bA [a0, a1, a2]) (h2 : Bx W6 bR [r]) (h3 : W6.cell? ⟨bP, 3, none⟩ = some pe) : S36 bA bR bP a0 a1 a2 r pe W6.drew := ⟨h1.1 0 _ rfl, h1.1 1 _ rfl, h1.1 2 _ rfl, h2.1 0 _ rfl, h3⟩
theorem reg36 {W : World} {bA bC bR bE bP : Nat} {a0 a1 a2 r pe : Value} (hA : Bx W bA [a0, a1, a2]) (hR : Bx W bR [r]) (hp : W.cell? ⟨bP, 3, none⟩ = some pe) (n1 : bA ≠ bC) (n2 : bA ≠ bR) (n3 : bA ≠ bE) (n4 : bC ≠ bR) (n6 : bR ≠ bE) (n7 : bP ≠ bA) (n8 : bP ≠ bC) (n9 : bP ≠ bR) (n10 : bP ≠ bE) (c e : Value) :
 S36 bA bR bP a0 a1 a2 r pe W.drew ∧ S36 bA bR bP a0 a1 a2 r pe (((W.setCell ⟨bA, 0, none⟩ a0).setCell ⟨bA, 1, none⟩ a1).setCell ⟨bA, 2, none⟩ a2).drew ∧ S36 bA bR bP a0 a1 a2 r pe ((((W.setCell ⟨bA, 0, none⟩ a0).setCell ⟨bA, 1, none⟩ a1).setCell ⟨bA, 2, none⟩ a2).setCell ⟨bC, 0, none⟩ c).drew ∧
  S36 bA bR bP a0 a1 a2 r pe (((((W.setCell ⟨bA, 0, none⟩ a0).setCell ⟨bA, 1, none⟩ a1).setCell ⟨bA, 2, none⟩ a2).setCell ⟨bC, 0, none⟩ c).setCell ⟨bR, 0, none⟩ r).drew ∧ S36 bA bR bP a0 a1 a2 r pe ((((((W.setCell ⟨bA, 0, none⟩ a0).setCell ⟨bA, 1, none⟩ a1).setCell ⟨bA, 2, none⟩ a2).setCell ⟨bC, 0, none⟩ c).setCell ⟨bR, 0, none⟩ r).setCell ⟨bE, 0, none⟩ e).drew := by
 have fcell : ∀ (X : World) (b o : Nat) (v : Value), bP ≠ b → X.cell? ⟨bP, 3, none⟩ = some pe → (X.setCell ⟨b, o, none⟩ v).cell? ⟨bP, 3, none⟩ = some pe := fun X b o v hk h => (World.cell?_of_block (Below.heap_setCell _ _ _ _ (by first | exact hk | exact hk.symm))).trans h
 have GA1 : Bx (((W.setCell ⟨bA, 0, none⟩ a0).setCell ⟨bA, 1, none⟩ a1).setCell ⟨bA, 2, none⟩ a2) bA [a0, a1, a2] := (thr_set hA a0 a1 a2).1
 have GR1 : Bx (((W.setCell ⟨bA, 0, none⟩ a0).setCell ⟨bA, 1, none⟩ a1).setCell ⟨bA, 2, none⟩ a2) bR [r] := ((hR.farC (a := ⟨bA, 0, none⟩) (by show bR ≠ bA; exact n2.symm) a0).farC (a := ⟨bA, 1, none⟩) (by show bR ≠ bA; exact n2.symm) a1).farC (a := ⟨bA, 2, none⟩) (by show bR ≠ bA; exact n2.symm) a2
 have c1 := fcell _ bA 2 a2 n7 (fcell _ bA 1 a1 n7 (fcell W bA 0 a0 n7 hp))
 generalize ((W.setCell ⟨bA, 0, none⟩ a0).setCell ⟨bA, 1, none⟩ a1).setCell ⟨bA, 2, none⟩ a2 = W1 at GA1 GR1 c1 ⊢
 have GA2 := GA1.farC (a := ⟨bC, 0, none⟩) (by show bA ≠ bC; exact n1) c
 have GR2 := GR1.farC (a := ⟨bC, 0, none⟩) (by show bR ≠ bC; exact n4.symm) c
 have c2 := fcell _ bC 0 c n8 c1
 have GA3 := GA2.farC (a := ⟨bR, 0, none⟩) (by show bA ≠ bR; exact n2) r
 have GR3 := GR2.set1 r
 have c3 := fcell _ bR 0 r n9 c2
 have GA4 := GA3.farC (a := ⟨bE, 0, none⟩) (by show bA ≠ bE; exact n3) e
 have GR4 := GR3.farC (a := ⟨bE, 0, none⟩) (by show bR ≠ bE; exact n6) e
 have c4 := fcell _ bE 0 e n10 c3
 exact ⟨S36.of hA hR hp, S36.of GA1 GR1 c1, S36.of GA2 GR2 c2, S36.of GA3 GR3 c3, S36.of GA4 GR4 c4⟩
theorem progF_spec {d : Wd} {num term known : Int} {x : Px} (h : progF d num term known = some x) : x ∈ d.ps ∧ x.p.number = num ∧ goodP x.p = true ∧ inB term 0 1023 = true := by
 unfold progF defAt at h
 split at h
 ·rename_i ht
  split at h
  ·obtain ⟨h1, h2⟩ := Option.filter_eq_some_iff.1 h
   simp only [Bool.and_eq_true, beq_iff_eq] at h2
   exact ⟨List.mem_of_getElem? h1, h2.1, h2.2, ht⟩
  ·cases h
 ·cases h
theorem progF_mem {d : Wd} {num term known : Int} {x : Px} (h : progF d num term known = some x) : x ∈ d.ps := (progF_spec h).1
set_option maxRecDepth 100000 in
set_option maxHeartbeats 16000000 in
theorem dgOf_some {n₀ : Nat} (d : Wd) (student num term known : Int) (w : World) (hd : d.Ok w (fun k => k < n₀)) (hki : KindsAt w) (h0 : 0 < n₀) (hn : n₀ ≤ w.heap.size) (hf : d.fs.length ≤ 100) (hfw : ∀ x ∈ d.cs, Cr.Few x) (hv : ∀ f ∈ d.fs, f.val ≤ 9223372036854775807)
 (x : Px) (hpf : progF d num term known = some x) (hp : x.p.reqs.length ≤ 70 ∧ ∀ q ∈ x.p.reqs, q.fr.length ≤ 1048576) (hrl : (ofR d student term known).length ≤ 100000) :
 Calls Tryz.prog 6 #[d.v, .int .i64 student, .int .i64 num, .int .i64 term, .int .i64 known] w fun e w' => OfOut d student num term known w w' e ∧ Below w.heap.size w w' := by
 have HD := Lib.hid hd
 have HKI := Lib.hid hki
 have hmf : ∀ (fn : Fn) (first cap : Array Value) (w : World), (Instr.makeFunc fn first cap).run Tryz.prog w = .ok (.func fn first cap) w := fun _ _ _ _ => rfl
 unfold Wd.v
 clear hd hki
 refine (callsIn_wide (n := 6)).1 ?_
 refine callsIn_of_wp_marks Tryz.func6 rfl trivial ?_ rfl
 simp only [Tryz.ntmps6, List.size_toArray, List.length_cons, List.length_nil, Nat.reduceAdd, Nat.reduceSub, Array.replicate_succ, Array.replicate_zero, List.push_toArray, List.append_toArray, List.nil_append, List.cons_append]
 refine wpIn_wide.2 ?_
 go_wp2_with fail
 obtain ⟨W1, hW1⟩ : ∃ X, X = ((((w.alloc (.cells #[.slice d.c.a d.c.n d.c.c, .slice d.p.a d.p.n d.p.c, .slice d.y.a d.y.n d.y.c, .slice d.f.a d.f.n d.f.c] 29)).alloc (.cells #[.slice none 0 0, .int .i64 0, .slice none 0 0] 35)).alloc (.cells #[.bool false] 4)).alloc (.cells #[.slice none 0 0] 36)).alloc (.cells #[.int .i64 0] 37) := ⟨_, rfl⟩
 have q0 : Bx W1 w.heap.size d.enc := by rw [hW1]; exact ((((Bx.new w d.enc _).alloc _).alloc _).alloc _).alloc _
 have q1 : Bx W1 (w.heap.size + 1) [.slice none 0 0, .int .i64 0, .slice none 0 0] := by rw [hW1]; exact (((Bx.at_ _ [.slice none 0 0, .int .i64 0, .slice none 0 0] _ _ (by simp)).alloc _).alloc _).alloc _
 have q2 : Bx W1 (w.heap.size + 2) [.bool false] := by rw [hW1]; exact ((Bx.at_ _ [.bool false] _ _ (by simp)).alloc _).alloc _
 have q3 : Bx W1 (w.heap.size + 3) [.slice none 0 0] := by rw [hW1]; exact (Bx.at_ _ [.slice none 0 0] _ _ (by simp)).alloc _
 have q4 : Bx W1 (w.heap.size + 4) [.int .i64 0] := by rw [hW1]; exact Bx.at_ _ [.int .i64 0] _ _ (by simp)
 have hz1 : W1.heap.size = w.heap.size + 5 := by rw [hW1]; simp
 have hb1 : Below w.heap.size w W1 := by
  rw [hW1]
  exact (((((Below.refl _ w).alloc (Nat.le_refl _) _).alloc (by simp) _).alloc (by simp; omega) _).alloc (by simp; omega) _).alloc (by simp; omega) _
 obtain ⟨b5, hb5⟩ : ∃ b, b = w.heap.size := ⟨_, rfl⟩
 obtain ⟨bA, hbA⟩ : ∃ b, b = w.heap.size + 1 := ⟨_, rfl⟩
 obtain ⟨bC, hbC⟩ : ∃ b, b = w.heap.size + 1 + 1 := ⟨_, rfl⟩
 obtain ⟨bR, hbR⟩ : ∃ b, b = w.heap.size + 1 + 1 + 1 := ⟨_, rfl⟩
 obtain ⟨bE, hbE⟩ : ∃ b, b = w.heap.size + 1 + 1 + 1 + 1 := ⟨_, rfl⟩
 have HQ : Hid (b5 = w.heap.size ∧ bA = w.heap.size + 1 ∧ bC = w.heap.size + 2 ∧ bR = w.heap.size + 3 ∧ bE = w.heap.size + 4) := Lib.hid ⟨hb5, hbA, hbC, hbR, hbE⟩
 rw [← hW1, ← hbE, ← hbR, ← hbC, ← hbA]
 rw [← hb5] at q0
 rw [← hbA] at q1
 rw [show w.heap.size + 2 = bC by omega] at q2
 rw [show w.heap.size + 3 = bR by omega] at q3
 rw [show w.heap.size + 4 = bE by omega] at q4
 have H0 := Lib.hid q0
 have HA := Lib.hid q1
 have HC := Lib.hid q2
 have HR := Lib.hid q3
 have HE := Lib.hid q4
 have HB := Lib.hid hb1
 have HZ := Lib.hid hz1
 have HPG := Lib.hid (bkProgramme_any d num term known W1 (HD.out.step hb1) (by omega))
 obtain ⟨J, hJ⟩ : ∃ J : Ending → World → Prop, J = fun e w' => OfOut d student num term known w w' e ∧ Below w.heap.size w w' := ⟨_, rfl⟩
 clear hW1 hb5 hbA hbC hbR hbE q0 q1 q2 q3 q4 hb1 hz1
 have HPF := Lib.hid hpf
 have HXO : Hid (Px.Ok w (fun k => k < n₀) x) := Lib.hid (HD.out.po x (progF_mem hpf))
 rw [hpf] at HPG
 have hz := HZ.out
 refine HPG.out.mono ?_
 clear hpf
 rintro e w2 ⟨⟨s, rfl, xs, hs, hxl⟩, hb2⟩
 obtain ⟨sA, sn, sc⟩ := s
 have hsn : sn = xs.length := hs.1
 subst hsn
 have HS := Lib.hid hs
 have HB2 := Lib.hid hb2
 obtain ⟨p, ⟨rA, rn, rc⟩⟩ := x
 clear hs hb2
 simp only [Px.v, pgV]
 go_wp2_with fail
 obtain ⟨W3, hW3⟩ : ∃ X, X = w2.alloc (.cells #[.string p.nm, .int .i64 p.number, .int .i64 p.uses, .int .i64 p.earn, .int .i64 p.mean.num, .int .i64 p.mean.den, .slice rA rn rc] 44) := ⟨_, rfl⟩
 have hb3 : Below W1.heap.size W1 W3 := by rw [hW3]; exact HB2.out.alloc HB2.out.size _
 have hst : Below w2.heap.size w2 W3 := by rw [hW3]; exact (Below.refl _ _).alloc (Nat.le_refl _) _
 obtain ⟨bP, hbP⟩ : ∃ b, b = w2.heap.size := ⟨_, rfl⟩
 have hx3 : Bx W3 bP [.string p.nm, .int .i64 p.number, .int .i64 p.uses, .int .i64 p.earn, .int .i64 p.mean.num, .int .i64 p.mean.den, .slice rA rn rc] := by rw [hW3, hbP]; exact Bx.new w2 [.string p.nm, .int .i64 p.number, .int .i64 p.uses, .int .i64 p.earn, .int .i64 p.mean.num, .int .i64 p.mean.den, .slice rA rn rc] _
 have HP3 := Lib.hid hx3
 have HPZ : Hid (w.heap.size + 5 ≤ bP) := Lib.hid (by have := HB2.out.size; omega)
 rw [← hW3, ← hbP]
 have HB3 := Lib.hid hb3
 have HAD := Lib.hid (ofAdd_any bR (w.heap.size + 5) (.slice none 0 0) [] xs sA sc W3 (HR.out.step hb3) (by have := HQ.out; omega) (Owns.nil_ _ _ _ _ _) ((HS.out.step hst).reads) HS.out.2.2.2.1 (by simp; omega) (by have := hb3.size; omega))
 clear hW3 hb3 hst hbP hx3
 refine HAD.out.mono ?_
 rintro e w4 ⟨rfl, v', hR4, hO4, hown, hsz, hos, htp, hou, hblk⟩
 have hz3 := HB3.out.size
 have hz4 : w.heap.size + 5 ≤ w4.heap.size := by omega
 have HBB : Hid (∀ k, k < W3.heap.size → k ≠ bR → w4.heap[k]? = W3.heap[k]?) := Lib.hid (fun k hk hne => hblk k hk hne (by simp [Value.ownBlock]))
 have kpt : ∀ {b : Nat} {cs : List Value}, Bx W3 b cs → b ≠ bR → Bx w4 b cs := fun {b cs} hx hne => hx.keep (P := fun y => y = b) ⟨hsz, fun k e hl => by subst e; exact HBB.out k hl hne⟩ rfl
 have HA4 := Lib.hid (kpt (HA.out.step HB3.out) (by have := HQ.out; omega))
 have HC4 := Lib.hid (kpt (HC.out.step HB3.out) (by have := HQ.out; omega))
 have HE4 := Lib.hid (kpt (HE.out.step HB3.out) (by have := HQ.out; omega))
 have H04 := Lib.hid (kpt (H0.out.step HB3.out) (by have := HQ.out; omega))
 have HP4 := Lib.hid (kpt HP3.out (by have := HQ.out; have := HPZ.out; omega))
 have HR4 := Lib.hid hR4
 have HO4 := Lib.hid hO4
 have HW4 : Hid (Below w.heap.size w w4) := Lib.hid ⟨hos.trans (HB3.out.os.trans HB.out.os), htp.trans (HB3.out.tape.trans HB.out.tape), hou.trans (HB3.out.output.trans HB.out.output), by omega, fun k hk => (HBB.out k (by omega) (by have := HQ.out; omega)).trans ((HB3.out.block k (by omega)).trans (HB.out.block k hk))⟩
 have HOV : Hid (∀ k, v'.ownBlock = some k → k ≠ bP) := Lib.hid (fun k e => by
  have h3 := HP3.out.2.2
  rcases hown with h | h
  ·rw [h] at e; simp [Value.ownBlock] at e
  ·rw [h] at e; cases e; omega)
 clear hR4 hO4 hown hos htp hou hblk kpt hsz HS HAD HP3 HR HA HC HE H0
 obtain ⟨h40, h41, h42⟩ := H04.out
 have p0 := h40 0 _ rfl
 have p1 := h40 1 _ rfl
 have p2 := h40 2 _ rfl
 have p3 := h40 3 _ rfl
 have HRC := Lib.hid (rcOf_any d student term known w4 (HD.out.step HW4.out) (HKI.out.step HW4.out) h0 (by omega) (by omega) hfw hv)
 rw [HQ.out.1] at p0 p1 p2 p3 h42
 clear h40 h41
 go_wp2_with fail
 refine HRC.out.mono ?_
 rintro e w5 ⟨⟨tA, tn, tc⟩, v5, rfl, ht5, ⟨rs5, hr5, hl5⟩, hb5⟩
 simp only at ht5
 have HT5 := Lib.hid ht5
 have HR5 := Lib.hid hr5
 have HB5 := Lib.hid hb5
 clear ht5 hr5 hb5 HRC
 cases hof : ofB student term
 ·simp only [Bool.false_eq_true, if_false]
  go_wp2_with fail
  obtain ⟨W6, hW6⟩ : ∃ X, X = w5.alloc (.cells #[.int .i64 0, .slice tA tn tc] 49) := ⟨_, rfl⟩
  have hb6 : Below w4.heap.size w4 W6 := by rw [hW6]; exact HB5.out.alloc HB5.out.size _
  rw [← hW6]
  have FA := Lib.hid (HA4.out.step hb6)
  have FC := Lib.hid (HC4.out.step hb6)
  have FR := Lib.hid (HR4.out.step hb6)
  have FE := Lib.hid (HE4.out.step hb6)
  have FW : Hid (Below w.heap.size w W6) := Lib.hid (HW4.out.trans (hb6.mono HW4.out.size))
  refine (try_no (150) (by decide) W6).mono ?_
  rintro e wf ⟨rfl, rfl⟩
  refine ⟨by simp, .inr ⟨fun h => by simp [Fence.wide] at h, _, _, 19, #[.pointer (some ⟨bA, 0, none⟩), .pointer (some ⟨bC, 0, none⟩), .pointer (some ⟨bR, 0, none⟩), .pointer (some ⟨bE, 0, none⟩)], rfl, rfl, fun _ _ => trivial, (of_caught 5 _ _ _ _ (150) _ _ _ _ _ _ W6 FA.out FC.out FR.out FE.out (by have := HQ.out; omega) (by have := HQ.out; omega) (by have := HQ.out; omega)).mono ?_⟩⟩
  rintro e u' w9 ⟨rfl, hu, g1, g2, g3, g4, g5⟩
  have k0 := g1.1 0 _ rfl
  have k1 := g1.1 1 _ rfl
  have k2 := g1.1 2 _ rfl
  have k3 := g2.1 0 _ rfl
  have k4 := g3.1 0 _ rfl
  have k5 := g4.1 0 _ rfl
  show LeavesInM _ _ _ _ _ _ [] (settle u') w9
  rw [hu]
  exact ⟨.tuple #[.agg #[.slice none 0 0, .int .i64 0, .slice none 0 0], .bool false, .slice none 0 0, .int .i64 (150)], by simp [results, Tryz.results6, go_sem, k0, k1, k2, k3, k4, k5], .inl ⟨_, 150, rfl, .inr (by decide)⟩, FW.out.trans (g5 _ (by have := HQ.out; omega))⟩
 ·simp only [if_true]
  go_wp2_with fail
  obtain ⟨bT, hbT⟩ : ∃ b, b = w5.heap.size := ⟨_, rfl⟩
  obtain ⟨W6, hW6⟩ : ∃ X, X = w5.alloc (.cells #[.int .i64 student, .slice tA tn tc] 49) := ⟨_, rfl⟩
  have hst : Below w5.heap.size w5 W6 := by rw [hW6]; exact (Below.refl _ _).alloc (Nat.le_refl _) _
  have hb6 : Below w4.heap.size w4 W6 := HB5.out.trans (hst.mono HB5.out.size)
  have HT6 : Hid (Bx W6 bT [.int .i64 student, .slice tA tn tc]) := Lib.hid (by rw [hW6, hbT]; exact Bx.new w5 [.int .i64 student, .slice tA tn tc] _)
  have hz6 : W6.heap.size = bT + 1 := by rw [hW6, hbT]; simp
  have hTz : w4.heap.size ≤ bT := by rw [hbT]; exact HB5.out.size
  obtain ⟨A5, c5, rfl, hn5, _⟩ := HR5.out.shape
  rw [← hW6, ← hbT]
  have hPz : bP < w4.heap.size := HP4.out.2.2
  obtain ⟨O6, hO6⟩ : ∃ O : Nat → Prop, O = fun k => k = w.heap.size ∨ k = bA ∨ k = bC ∨ k = bE ∨ k = bP ∨ k = bT ∨ (Value.slice tA tn tc).ownBlock = some k ∨ (Value.slice A5 rs5.length c5).ownBlock = some k := ⟨_, rfl⟩
  have hv9 : ∀ k, v'.ownBlock = some k → w.heap.size + 5 ≤ k ∧ k < w4.heap.size := fun k e => ⟨HO4.out.base_le k e, HO4.out.lt k e⟩
  have H6 : Hid (OfL w O6 W6 (bT + 1) [] (.slice none 0 0) [] ([] ++ xs) v' W6) := Lib.hid ⟨by have h := HR4.out.step hb6; rw [HQ.out.2.2.2.1] at h; exact h, HO4.out.below hb6 (Nat.le_refl _), Owns.nil_ _ _ _ _ _, fun s ns m => by simp at m, fun k e => by simp [Value.ownBlock] at e, HW4.out.trans (hb6.mono HW4.out.size), by omega, by omega, fun k hk => by
   rw [hO6] at hk
   have hq := HQ.out
   have hpz := HPZ.out
   rcases hk with hk | hk | hk | hk | hk | hk | hk | hk
   all_goals first
    | (refine ⟨by omega, by omega, fun e => ?_, fun e => by simp [Value.ownBlock] at e, rfl⟩; have := hv9 k e; omega)
    | (refine ⟨by omega, by omega, fun e => HOV.out k e hk, fun e => by simp [Value.ownBlock] at e, rfl⟩)
    | skip
   ·have j1 := HT5.out.base_le k hk
    have j2 := HT5.out.lt k hk
    exact ⟨by omega, by omega, fun e => by have := hv9 k e; omega, fun e => by simp [Value.ownBlock] at e, rfl⟩
   ·have j1 := HR5.out.base_le k hk
    have j2 := HR5.out.lt k hk
    exact ⟨by omega, by omega, fun e => by have := hv9 k e; omega, fun e => by simp [Value.ownBlock] at e, rfl⟩⟩
  clear hW6 hbT
  refine (try_ok W6).mono ?_
  rintro e wf ⟨rfl, rfl⟩
  go_wp2_with fail
  have hbRe : bR = w.heap.size + 3 := HQ.out.2.2.2.1
  have HBRE := Lib.hid hbRe
  have HAD2 := Lib.hid (ofAdd_any bR (w.heap.size + 5) v' ([] ++ xs) rs5 A5 c5 W6 (by rw [hbRe]; exact H6.out.br) (by omega) H6.out.rd ((HR5.out.below hst (Nat.le_refl _)).reads Rd.enc_len) hn5 (by simp; omega) (by omega))
  have H06 := Lib.hid (H04.out.step hb6)
  have HTO6 := Lib.hid (HT5.out.below hst (Nat.le_refl _))
  have HP6 := Lib.hid (HP4.out.step hb6)
  have HA6 := Lib.hid (HA4.out.step hb6)
  have HC6 := Lib.hid (HC4.out.step hb6)
  have HE6 := Lib.hid (HE4.out.step hb6)
  clear hbRe hst hb6
  refine HAD2.out.mono ?_
  rintro e w7 ⟨rfl, v7, hR7, hO7, hown7, hsz7, hos7, htp7, hou7, hblk7⟩
  have H7 : Hid (OfL w O6 W6 (bT + 1) [] (.slice none 0 0) [] (([] ++ xs) ++ rs5) v7 w7) := Lib.hid (H6.out.add (by rw [HBRE.out] at hR7; exact hR7) hO7 hown7 hsz7 ⟨hos7, htp7, hou7⟩ (fun k h1 h2 h3 => hblk7 k h1 (by rw [HBRE.out]; exact h2) h3))
  have HO6 := Lib.hid hO6
  clear hR7 hO7 hown7 hos7 htp7 hou7 hblk7 hO6 HAD2
  have hq := HQ.out.1
  have kp7 : ∀ {b : Nat} {cs : List Value}, Bx W6 b cs → O6 b → Bx w7 b cs := fun {b cs} hx hb => hx.keep (P := fun y => y = b) ⟨hsz7, fun k e _ => by subst e; exact (H7.out.ot k hb).2.2.2.2⟩ rfl
  have H07 := Lib.hid (kp7 H06.out (by rw [HO6.out]; exact .inl hq))
  have HT7 := Lib.hid (kp7 HT6.out (by rw [HO6.out]; exact .inr (.inr (.inr (.inr (.inr (.inl rfl)))))))
  obtain ⟨a0, a1, a2⟩ := H07.out
  obtain ⟨t0, t1, t2⟩ := HT7.out
  have p0 := a0 0 _ rfl
  have p1 := a0 1 _ rfl
  have p2 := a0 2 _ rfl
  have p3 := a0 3 _ rfl
  have p4 := t0 0 _ rfl
  have p5 := t0 1 _ rfl
  rw [hq] at p0 p1 p2 p3 a2
  clear hq a0 a1 t0 t1
  go_wp2_with fail
  obtain ⟨l, hl⟩ : ∃ l, l = ofR d student term known := ⟨_, rfl⟩
  have HTO7 : Hid (Owns w7 w4.heap.size 69 5 At.enc (.slice tA tn tc) l) := Lib.hid (by rw [hl]; exact HTO6.out.same (fun k e => (H7.out.ot k (by rw [HO6.out]; exact .inr (.inr (.inr (.inr (.inr (.inr (.inl e)))))))).2.2.2.2))
  rw [← hl] at hrl
  have HL := Lib.hid hl
  obtain ⟨tA2, tc2, hte, _, _⟩ := HTO7.out.shape
  simp only [Value.slice.injEq] at hte
  obtain ⟨rfl, rfl, rfl⟩ := hte
  have HRC2 := Lib.hid (rcCounted_any d student l tA tc term known w7 (HD.out.step H7.out.bw) (HKI.out.step H7.out.bw) h0 (Nat.le_trans hn H7.out.bw.size) (HTO7.out.reads At.enc_len) hrl (by omega) hfw)
  clear hl p0 p1 p2 p3 p4 p5
  refine HRC2.out.mono ?_
  rintro e w8 ⟨u, v8, rfl, hu8, ⟨rs8, hr8, hl8⟩, hb8⟩
  have HU8 := Lib.hid hu8
  have HR8 := Lib.hid hr8
  have HB8 := Lib.hid hb8
  obtain ⟨ct, zc, hcz⟩ : ∃ ct zc, (ct, zc) = cntE d student term known l := ⟨_, _, rfl⟩
  rw [← hcz] at HU8
  simp only [← hcz]
  have HCZ := Lib.hid hcz
  clear hu8 hr8 hb8 hcz HRC2
  go_wp2_with fail
  have HA8 := Lib.hid ((kp7 HA6.out (by rw [HO6.out]; exact .inr (.inl rfl))).step HB8.out)
  have HC8 := Lib.hid ((kp7 HC6.out (by rw [HO6.out]; exact .inr (.inr (.inl rfl)))).step HB8.out)
  have HE8 := Lib.hid ((kp7 HE6.out (by rw [HO6.out]; exact .inr (.inr (.inr (.inl rfl))))).step HB8.out)
  have HP8 := Lib.hid ((kp7 HP6.out (by rw [HO6.out]; exact .inr (.inr (.inr (.inr (.inl rfl)))))).step HB8.out)
  have H08 := Lib.hid (H07.out.step HB8.out)
  have H8 := Lib.hid (H7.out.step HB8.out)
  have HRB8 : Hid (Bx w8 bR [v7]) := Lib.hid (by rw [HBRE.out]; exact H8.out.br)
  have HW8 : Hid (Below w.heap.size w w8) := Lib.hid H8.out.bw
  clear kp7
  by_cases hz : zc = 0
  rotate_left
  ·
   refine (try_no (zc) hz w8).mono ?_
   rintro e wf ⟨rfl, rfl⟩
   refine ⟨by simp, .inr ⟨fun h => by simp [Fence.wide] at h, _, _, 19, #[.pointer (some ⟨bA, 0, none⟩), .pointer (some ⟨bC, 0, none⟩), .pointer (some ⟨bR, 0, none⟩), .pointer (some ⟨bE, 0, none⟩)], rfl, rfl, fun _ _ => trivial, (of_caught 5 _ _ _ _ (zc) _ _ _ _ _ _ w8 HA8.out HC8.out HRB8.out HE8.out (by have := HQ.out; omega) (by have := HQ.out; omega) (by have := HQ.out; omega)).mono ?_⟩⟩
   rintro e u' w9 ⟨rfl, hu, g1, g2, g3, g4, g5⟩
   have k0 := g1.1 0 _ rfl
   have k1 := g1.1 1 _ rfl
   have k2 := g1.1 2 _ rfl
   have k3 := g2.1 0 _ rfl
   have k4 := g3.1 0 _ rfl
   have k5 := g4.1 0 _ rfl
   show LeavesInM _ _ _ _ _ _ [] (settle u') w9
   rw [hu]
   exact ⟨.tuple #[.agg #[.slice none 0 0, .int .i64 0, .slice none 0 0], .bool false, .slice none 0 0, .int .i64 (zc)], by simp [results, Tryz.results6, go_sem, k0, k1, k2, k3, k4, k5], .inl ⟨_, zc, rfl, .inr hz⟩, HW8.out.trans (g5 _ (by have := HQ.out; omega))⟩
  subst hz
  refine (try_ok w8).mono ?_
  rintro e wf ⟨rfl, rfl⟩
  go_wp2_with fail
  obtain ⟨A8, c8, rfl, hn8, _⟩ := HR8.out.shape
  obtain ⟨uA, uc, rfl, hnu, hul⟩ := HU8.out.shape
  obtain ⟨O8, hO8⟩ : ∃ O : Nat → Prop, O = fun k => k = w.heap.size ∨ k = bA ∨ k = bC ∨ k = bE ∨ k = bP ∨ (Value.slice uA ct.length uc).ownBlock = some k := ⟨_, rfl⟩
  have H9 : Hid (OfL w O8 w8 w8.heap.size [] (.slice none 0 0) [] (([] ++ xs) ++ rs5) v7 w8) := Lib.hid (H8.out.rebase H8.out.zW (Nat.le_refl _) (fun k hk => by
   rw [hO8] at hk
   have hmem : k = w.heap.size ∨ k = bA ∨ k = bC ∨ k = bE ∨ k = bP → O6 k := fun h => by
    rw [HO6.out]
    rcases h with h | h | h | h | h
    ·exact .inl h
    ·exact .inr (.inl h)
    ·exact .inr (.inr (.inl h))
    ·exact .inr (.inr (.inr (.inl h)))
    ·exact .inr (.inr (.inr (.inr (.inl h))))
   have old : O6 k → k < w8.heap.size ∧ k ≠ w.heap.size + 3 ∧ v7.ownBlock ≠ some k ∧ (Value.slice none 0 0).ownBlock ≠ some k := fun h => by
    obtain ⟨j1, j2, j3, j4, _⟩ := H8.out.ot k h
    exact ⟨Nat.lt_of_lt_of_le j1 H8.out.zW, j2, j3, j4⟩
   rcases hk with hk | hk | hk | hk | hk | hk
   ·exact old (hmem (.inl hk))
   ·exact old (hmem (.inr (.inl hk)))
   ·exact old (hmem (.inr (.inr (.inl hk))))
   ·exact old (hmem (.inr (.inr (.inr (.inl hk)))))
   ·exact old (hmem (.inr (.inr (.inr (.inr hk)))))
   ·have j1 := HU8.out.base_le k hk
    have j2 := HU8.out.lt k hk
    have j3 := H7.out.bw.size
    have j4 := H7.out.zW
    have j5 := H7.out.zB
    exact ⟨j2, by omega, fun e => by have := H7.out.rd.lt k e; omega, fun e => by simp [Value.ownBlock] at e⟩))
  have HAD3 := Lib.hid (ofAdd_any bR (w.heap.size + 5) v7 (([] ++ xs) ++ rs5) rs8 A8 c8 w8 HRB8.out (by rw [HBRE.out]; omega) H9.out.rd (HR8.out.reads Rd.enc_len) hn8 (by simp; omega) (by have := H9.out.zW; have := H9.out.zB; omega))
  refine HAD3.out.mono ?_
  rintro e w9 ⟨rfl, v9, hR9, hO9, hown9, hsz9, hos9, htp9, hou9, hblk9⟩
  have H10 : Hid (OfL w O8 w8 w8.heap.size [] (.slice none 0 0) [] ((([] ++ xs) ++ rs5) ++ rs8) v9 w9) := Lib.hid (H9.out.add (by rw [HBRE.out] at hR9; exact hR9) hO9 hown9 hsz9 ⟨hos9, htp9, hou9⟩ (fun k h1 h2 h3 => hblk9 k h1 (by rw [HBRE.out]; exact h2) h3))
  have HO8 := Lib.hid hO8
  clear hR9 hO9 hown9 hos9 htp9 hou9 hblk9 hO8 HAD3
  have kp9 : ∀ {b : Nat} {cs : List Value}, Bx w8 b cs → O8 b → Bx w9 b cs := fun {b cs} hx hb => hx.keep (P := fun y => y = b) ⟨hsz9, fun k e _ => by subst e; exact (H10.out.ot k hb).2.2.2.2⟩ rfl
  have HP9 := Lib.hid (kp9 HP8.out (by rw [HO8.out]; exact .inr (.inr (.inr (.inr (.inl rfl))))))
  obtain ⟨a0, a1, a2⟩ := HP9.out
  have p6 := a0 6 _ rfl
  have f6 := a1 6
  clear a0 a1
  go_wp2_with fail
  obtain ⟨hs0, hsl, hlen0, hat0⟩ := HXO.out.1
  have HLEN := Lib.hid hlen0
  have HAT := Lib.hid hat0
  have HXW : Hid (SlR w9 (fun k => k < n₀) 6 RqH.enc ⟨rA, rn, rc⟩ hs0) := Lib.hid (hsl.step H10.out.bw)
  have hl70 : hs0.length ≤ 70 := by rw [hlen0]; exact hp.1
  clear hlen0 hat0
  have HCL := Lib.hid (clone_any ⟨rA, rn, rc⟩ hs0 w9 HXW.out (by omega))
  refine HCL.out.mono ?_
  rintro e w10 ⟨vq, rfl, hq10, hb10⟩
  have H11 := Lib.hid (H10.out.own hb10 hq10)
  have HP10 := Lib.hid (HP9.out.step hb10)
  have HQ10 := Lib.hid hq10
  obtain ⟨vA, vc, rfl, _, _⟩ := hq10.shape
  obtain ⟨O9, hO9⟩ : ∃ O : Nat → Prop, O = fun k => k = w.heap.size ∨ k = bA ∨ k = bC ∨ k = bE ∨ (Value.slice uA ct.length uc).ownBlock = some k := ⟨_, rfl⟩
  have hbPn : O8 bP := by rw [HO8.out]; exact .inr (.inr (.inr (.inr (.inl rfl))))
  have h98 : ∀ k, O9 k → O8 k := fun k hk => by
   rw [hO9] at hk
   rw [HO8.out]
   rcases hk with hk | hk | hk | hk | hk
   ·exact .inl hk
   ·exact .inr (.inl hk)
   ·exact .inr (.inr (.inl hk))
   ·exact .inr (.inr (.inr (.inl hk)))
   ·exact .inr (.inr (.inr (.inr (.inr hk))))
  have hPO : ¬ O9 bP := fun hk => by
   rw [hO9] at hk
   have j1 := HQ.out
   have j2 := HPZ.out
   rcases hk with hk | hk | hk | hk | hk
   ·omega
   ·omega
   ·omega
   ·omega
   ·have j3 := HU8.out.base_le bP hk
    have j4 := H7.out.ot bP (by rw [HO6.out]; exact .inr (.inr (.inr (.inr (.inl rfl)))))
    have j5 := H7.out.zW
    omega
  obtain ⟨j1, j2, j3, j4, _⟩ := H11.out.ot bP hbPn
  have H12 := Lib.hid ((H11.out.rebase (O' := O9) H11.out.zW (Nat.le_refl _) (fun k hk => by obtain ⟨i1, i2, i3, i4, _⟩ := H11.out.ot k (h98 k hk); exact ⟨Nat.lt_of_lt_of_le i1 H11.out.zW, i2, i3, i4⟩)).setBox (i := 6) (.slice vA hs0.length vc) (by have := HPZ.out; omega) j2 j3 j4 hPO)
  obtain ⟨W11, hW11⟩ : ∃ X, X = w10.setCell ⟨bP, 6, none⟩ (.slice vA hs0.length vc) := ⟨_, rfl⟩
  have HP11 : Hid (Bx W11 bP [.string p.nm, .int .i64 p.number, .int .i64 p.uses, .int .i64 p.earn, .int .i64 p.mean.num, .int .i64 p.mean.den, .slice vA hs0.length vc]) := Lib.hid (by rw [hW11]; exact HP10.out.setAt (i := 6) (by simp) (.slice vA hs0.length vc))
  rw [← hW11] at H12
  have HO9 := Lib.hid hO9
  have HA10 := Lib.hid ((kp9 HA8.out (by rw [HO8.out]; exact .inr (.inl rfl))).step hb10)
  have HC10 := Lib.hid ((kp9 HC8.out (by rw [HO8.out]; exact .inr (.inr (.inl rfl)))).step hb10)
  have HE10 := Lib.hid ((kp9 HE8.out (by rw [HO8.out]; exact .inr (.inr (.inr (.inl rfl))))).step hb10)
  have H010 := Lib.hid ((kp9 H08.out (by rw [HO8.out]; exact .inl HQ.out.1)).step hb10)
  have HU10 : Hid (Owns w10 w7.heap.size 69 5 At.enc (.slice uA ct.length uc) ct) := Lib.hid ((HU8.out.same (fun k e => (H10.out.ot k (by rw [HO8.out]; exact .inr (.inr (.inr (.inr (.inr e)))))).2.2.2.2)).below hb10 (Nat.le_refl _))
  have HA11 := Lib.hid (H12.out.bx HA10.out (by rw [HO9.out]; exact .inr (.inl rfl)))
  have HC11 := Lib.hid (H12.out.bx HC10.out (by rw [HO9.out]; exact .inr (.inr (.inl rfl))))
  have HE11 := Lib.hid (H12.out.bx HE10.out (by rw [HO9.out]; exact .inr (.inr (.inr (.inl rfl)))))
  have H011 := Lib.hid (H12.out.bx H010.out (by rw [HO9.out]; exact .inl HQ.out.1))
  have HU11 := Lib.hid (H12.out.owns HU10.out (fun k e => by rw [HO9.out]; exact .inr (.inr (.inr (.inr e)))))
  obtain ⟨OO, hOO⟩ : ∃ O : Nat → Prop, O = fun k => O9 k ∨ k = bP := ⟨_, rfl⟩
  obtain ⟨rs0, hrs0⟩ : ∃ r : List Rd, r = (([] ++ xs) ++ rs5) ++ rs8 := ⟨_, rfl⟩
  have HRL0 : Hid (rs0.length ≤ 600000001) := Lib.hid (by rw [hrs0]; simp only [List.length_append, List.length_nil]; omega)
  have H13 : Hid (OfL w OO W11 W11.heap.size hs0 (.slice vA hs0.length vc) [] rs0 v9 W11) := Lib.hid (by
   rw [hrs0]
   refine H12.out.rebase H12.out.zW (Nat.le_refl _) (fun k hk => ?_)
   rw [hOO] at hk
   rcases hk with hk | hk
   ·obtain ⟨i1, i2, i3, i4, _⟩ := H12.out.ot k hk
    exact ⟨Nat.lt_of_lt_of_le i1 H12.out.zW, i2, i3, i4⟩
   ·rw [hk]
    exact ⟨Nat.lt_of_lt_of_le j1 H12.out.zW, j2, j3, j4⟩)
  have HOO := Lib.hid hOO
  obtain ⟨a0, a1, a2⟩ := HP10.out
  have p6 := a0 6 _ rfl
  have f6 := a1 6
  clear a0 a1 hq10 hb10 hO9 j1 j2 j3 j4 HCL hOO hrs0 h98 hPO hbPn kp9
  go_upto_region 14 with fail
  rw [← hW11]
  clear hW11 p6 f6
  have HZ7 : Hid (w.heap.size + 5 ≤ w7.heap.size) := Lib.hid (Nat.le_trans H7.out.zB (Nat.le_trans H7.out.zW (Nat.le_refl _)))
  clear HXW HPG HU8 HTO7 HTO6 HT6 HT7 HT5 HR5 HR8 HA8 HC8 HE8 HP8 H08 H8 HRB8 HW8 HA6 HC6 HE6 HP6 H06 H07 HA4 HC4 HE4 HP4 H04 HR4 HO4 HW4 HB5 HB8 H6 H7 H9 H10 H11 HP9 HP10 HQ10 HA10 HC10 HE10 H010 HU10
  obtain ⟨a0, a1, a2⟩ := HP11.out
  have p6 := a0 6 _ rfl
  clear a0 a1
  go_wp2_with fail
  go_loopw [84] (fun i wr => ∃ (k : Nat) (z : Nat) (done : List (Sl × List Int)) (rs : List Rd) (v9 : Value), k ≤ hs0.length ∧ i = .int .i64 k ∧ done.map Prod.snd = (p.reqs.take k).map (fun q => newFr d.fs term known q.fr) ∧ rs.length ≤ 600000001 + k * 10801381376 ∧ OfL w OO W11 z (hsOf hs0 done) (.slice vA hs0.length vc) done rs v9 wr) (fun i _ => hs0.length - (intOf i).toNat)
  case atStart => exact ⟨0, _, [], rs0, v9, Nat.zero_le _, rfl, by simp, by have := HRL0.out; omega, by rw [hsOf_nil]; exact H13.out⟩
  case round =>
   obtain ⟨k, z, done, rs, v91, hk, rfl, hdn, hrk, hI⟩ := hrel
   have HI := Lib.hid hI
   clear hI
   by_cases hlt : k < hs0.length
   ·have hdl : done.length = k := by have h1 := congrArg List.length hdn; have h2 := HLEN.out; simp only [List.length_map, List.length_take] at h1; omega
    obtain ⟨x, hx⟩ : ∃ x, hs0[k]? = some x := ⟨_, List.getElem?_eq_getElem hlt⟩
    obtain ⟨q, hq⟩ : ∃ q, p.reqs[k]? = some q := ⟨_, List.getElem?_eq_getElem (by rw [← HLEN.out]; exact hlt)⟩
    have hxs := hsOf_at hs0 done k hdl x hx
    have HXF : Hid (SlR w (fun k => k < n₀) 1 intE x.fr q.fr) := Lib.hid (HAT.out k x q hx hq).2.2.2
    have hqf : q.fr.length ≤ 1048576 := hp.2 q (List.mem_of_getElem? hq)
    have hrd := HI.out.rq.reads RqH.enc_len
    obtain ⟨ba, oa, x', hA, hba, hxk, hca⟩ := hrd.at_ (k := k) (by rw [hsOf_len]; exact hlt)
    rw [hxs] at hxk
    cases hxk
    subst hA
    obtain ⟨g0, hg0, _⟩ := HI.out.rq.setF hxs ⟨none, 0, 0⟩
    simp only [Option.some.injEq, Addr.mk.injEq, and_true] at hg0
    obtain ⟨rfl, rfl⟩ := hg0
    obtain ⟨nm, cr, gr, hm, ns, ⟨fA, fn, fc⟩⟩ := x
    have hfn := HXF.out.1
    simp only at hfn
    subst hfn
    simp only [RqH.enc] at hca
    have q0 := hca 0 _ rfl
    have q1 := hca 1 _ rfl
    have q2 := hca 2 _ rfl
    have q3 := hca 3 _ rfl
    have q4 := hca 4 _ rfl
    have q5 := hca 5 _ rfl
    simp only [Nat.add_zero, Nat.zero_add] at q0 q1 q2 q3 q4 q5
    have HXS := Lib.hid hxs
    have HDN := Lib.hid hdn
    have HDL := Lib.hid hdl
    have HQK := Lib.hid hq
    have HX0 := Lib.hid hx
    have HRK := Lib.hid hrk
    clear hxs hdn hdl hq hx hrk hrd hca
    clear p6 p0 p1 p2 p3 hv9 hsz7 t2 f6 h42 hfw hv
    go_upto_region 18 with fail
    obtain ⟨bq, hbq⟩ : ∃ b, b = wr.heap.size := ⟨_, rfl⟩
    obtain ⟨W12, hW12⟩ : ∃ X, X = wr.alloc (.cells #[.string nm, .int .i64 cr, .int .i64 gr, .bool hm, .slice ns.a ns.n ns.c, .slice fA q.fr.length fc] 67) := ⟨_, rfl⟩
    have hst : Below wr.heap.size wr W12 := by rw [hW12]; exact (Below.refl _ _).alloc (Nat.le_refl _) _
    have HBQ : Hid (Bx W12 bq [.string nm, .int .i64 cr, .int .i64 gr, .bool hm, .slice ns.a ns.n ns.c, .slice fA q.fr.length fc]) := Lib.hid (by rw [hW12, hbq]; exact Bx.new wr [.string nm, .int .i64 cr, .int .i64 gr, .bool hm, .slice ns.a ns.n ns.c, .slice fA q.fr.length fc] _)
    rw [← hW12, ← hbq]
    have HI2 := Lib.hid (HI.out.step hst)
    have HBK : Hid (∀ k, OO k → W12.heap[k]? = W11.heap[k]?) := Lib.hid (fun k hk => (HI2.out.ot k hk).2.2.2.2)
    have H012 := Lib.hid (HI2.out.bx H011.out (by rw [HOO.out, HO9.out]; exact .inl (.inl HQ.out.1)))
    have HP12 := Lib.hid (HI2.out.bx HP11.out (by rw [HOO.out]; exact .inr rfl))
    obtain ⟨O12, hO12⟩ : ∃ O : Nat → Prop, O = fun k => OO k ∨ k = bq := ⟨_, rfl⟩
    have HO12 := Lib.hid hO12
    have HM0 : Hid (OfM w O12 W12 W12.heap.size (hsOf hs0 done) (.slice (some ⟨ba, 0, none⟩) hs0.length vc) done rs v91 [] (.slice none 0 0) W12) := Lib.hid ⟨HI2.out.rebase HI2.out.zW (Nat.le_refl _) (fun k hk => by
     rw [hO12] at hk
     rcases hk with hk | hk
     ·obtain ⟨i1, i2, i3, i4, _⟩ := HI2.out.ot k hk
      exact ⟨Nat.lt_of_lt_of_le i1 HI2.out.zW, i2, i3, i4⟩
     ·have j1 := HBQ.out.2.2
      have j2 := HI.out.zW
      have j3 := HI.out.zB
      exact ⟨by omega, by omega, fun e => by have := HI.out.rd.lt k e; omega, fun e => by have := HI.out.aq k e; omega⟩), Owns.nil_ _ _ _ _ _, fun k e => by simp [Value.ownBlock] at e⟩
    obtain ⟨F, hF⟩ : ∃ F : Int → List Int, F = fun c => eqF d.fs c term known := ⟨_, rfl⟩
    have HF := Lib.hid hF
    have r5 := HBQ.out.1 5 _ rfl
    clear hbq hW12 hst hO12 hF q0 q1 q2 q3 q4 q5
    go_wp2_with fail
    clear r5
    generalize wr = V1 at *
    go_loopw [92, 23] (fun i v23 wr => ∃ (j : Nat) (rs2 : List Rd) (v92 : Value) (ys : List Int), j ≤ q.fr.length ∧ i = .int .i64 j ∧ rs2.length ≤ rs.length + j * 10301 ∧ ys = (q.fr.take j).flatMap F ∧ OfM w O12 W12 W12.heap.size (hsOf hs0 done) (.slice (some ⟨ba, 0, none⟩) hs0.length vc) done rs2 v92 ys v23 wr) (fun i _ _ => q.fr.length - (intOf i).toNat)
    case atStart => exact ⟨0, rs, v91, [], Nat.zero_le _, rfl, by omega, rfl, HM0.out⟩
    case round =>
     clear HM0
     obtain ⟨j, rs2, v92, ys, hj, rfl, hr2, hys, hM⟩ := hrel
     obtain ⟨A7, c7, rfl, hn7, _⟩ := hM.fr.shape
     have HM := Lib.hid hM
     have HYS := Lib.hid hys
     clear hys hM
     by_cases hjl : j < q.fr.length
     ·obtain ⟨bc, oc, c, hfA, hbc, hcj, hcc⟩ := (HXF.out.step HM.out.l.bw).reads.at_ hjl
      simp only at hfA
      subst hfA
      have c0 := hcc 0 _ rfl
      simp only [Nat.add_zero, Nat.mul_one] at c0
      obtain ⟨zs, hzs⟩ : ∃ zs, zs = F c := ⟨_, rfl⟩
      have HYN : Hid (ys ++ zs = (q.fr.take (j + 1)).flatMap F) := Lib.hid (by rw [flat_take _ _ _ hcj, ← HYS.out, ← hzs])
      have hzl : zs.length ≤ 101 := by rw [hzs, HF.out]; exact Nat.le_trans (eqF_len _ _ _ _) (by omega)
      have hEQ := bkEqual_any d c term known wr (HD.out.step HM.out.l.bw) hf
      rw [show eqF d.fs c term known = zs by rw [hzs, HF.out]] at hEQ
      have HEC := Lib.hid hEQ
      have hyl : ys.length ≤ 1048576 * 101 := by
       rw [HYS.out]
       refine Nat.le_trans (flat_le (m := 101) (fun c => by rw [HF.out]; exact Nat.le_trans (eqF_len _ _ _ _) (by omega)) _) (Nat.mul_le_mul_right _ ?_)
       exact Nat.le_trans (by rw [List.length_take]; omega) hqf
      obtain ⟨a0, a1, a2⟩ := HM.out.l.bx H012.out (by rw [HO12.out, HOO.out, HO9.out]; exact .inl (.inl (.inl HQ.out.1)))
      have p0 := a0 0 _ rfl
      have p1 := a0 1 _ rfl
      have p2 := a0 2 _ rfl
      have p3 := a0 3 _ rfl
      rw [HQ.out.1] at p0 p1 p2 p3 a2
      clear hEQ hzs hcc hcj a0 a1
      go_wp2_with fail
      clear p0 p1 p2 p3 c0
      refine HEC.out.mono ?_
      rintro e wa ⟨⟨⟨eA, en, ec⟩, v9e, rse, he, hov, hor, hlr⟩, hba2⟩
      obtain ⟨A5e, c5e, hv9e, hn5e, _⟩ := hor.shape
      subst hv9e
      obtain ⟨A6e, c6e, hv6, hn6, _⟩ := hov.shape
      simp only [Value.slice.injEq] at hv6
      obtain ⟨rfl, rfl, rfl⟩ := hv6
      subst he
      have HMA := Lib.hid (HM.out.step hba2)
      have HOV := Lib.hid hov
      have hwz : w.heap.size + 5 ≤ wr.heap.size := Nat.le_trans HM.out.l.zB HM.out.l.zW
      have hwa := hba2.size
      have HAD := Lib.hid (ofAdd_any bR (w.heap.size + 5) v92 rs2 rse A5e c5e wa (by rw [HBRE.out]; exact HMA.out.l.br) (by rw [HBRE.out]; omega) HMA.out.l.rd (hor.reads Rd.enc_len) hn5e (by
       have h1 := HRK.out
       have h2 : k * 10801381376 ≤ 69 * 10801381376 := Nat.mul_le_mul_right _ (by omega)
       omega) (by omega))
      clear hov hor hba2
      go_wp2_with fail
      refine HAD.out.mono ?_
      rintro e wb ⟨rfl, v93, hR3, hO3, hown3, hsz3, hos3, htp3, hou3, hblk3⟩
      have HMB := Lib.hid (HMA.out.add (by rw [HBRE.out] at hR3; exact hR3) hO3 hown3 hsz3 ⟨hos3, htp3, hou3⟩ (fun k h1 h2 h3 => hblk3 k h1 (by rw [HBRE.out]; exact h2) h3))
      have HZR : Hid (Reads wb wb.heap.size eA 1 intE zs) := Lib.hid ((HOV.out.same (fun k e => hblk3 k (HOV.out.lt k e) (by have := HOV.out.base_le k e; have := HBRE.out; omega) (fun e2 => by have := HOV.out.base_le k e; have := HM.out.l.rd.lt k e2; omega))).reads intE_len_)
      have hzb : W12.heap.size ≤ wb.heap.size := HMB.out.l.zW
      have hwb := hsz3
      obtain ⟨i0, hi0, hz0, hz1, hz2⟩ := info_parts Tryz.infoInt
      have HI0 := Lib.hid hi0
      clear hR3 hO3 hown3 hsz3 hos3 htp3 hou3 hblk3 HAD HEC hi0
      go_wp2_with (at_builtin; refine stop_mk ?_)
      refine stop_out (wpList_append_reads (en := intE) (sz := 1) _ rfl _ _ _ rfl intE_len_ intE_one_ W12.heap.size 3 i0 _ 8 Tryz.underlying64 HI0.out hz0 hz1 hz2 rfl (by omega) _ ys rfl HMB.out.fr wb.heap.size eA ec zs rfl HZR.out hn6 (by simp [maxLen]; omega) (by omega) hzb ?_)
      intro v24 w4x ho4 hg4 hob4 _
      have HMC := Lib.hid (HMB.out.app hg4 hob4 ho4)
      clear ho4 hg4 hob4
      go_wp2_with fail
      go_roundw
      case rel => exact ⟨j + 1, rs2 ++ rse, v93, ys ++ zs, by omega, by go_num, by rw [List.length_append]; omega, HYN.out, HMC.out⟩
      case measure => simp [intOf]; omega
     ·obtain rfl : q.fr.length = j := by omega
      have HYA : Hid (ys = q.fr.flatMap F) := Lib.hid (by rw [HYS.out, List.take_length])
      have hyl : ys.length ≤ 1048576 * 101 := by
       rw [HYA.out]
       exact Nat.le_trans (flat_le (m := 101) (fun c => by rw [HF.out]; exact Nat.le_trans (eqF_len _ _ _ _) (by omega)) _) (Nat.mul_le_mul_right _ hqf)
      have HSO := Lib.hid (sortF_any ys A7 c7 W12.heap.size wr HM.out.fr (by omega))
      clear hj hjl
      go_wp2_with fail
      refine HSO.out.mono ?_
      rintro e wc ⟨rfl, ho5, hg5⟩
      have HMS := Lib.hid (HM.out.app hg5 (.inl rfl) ho5)
      have HO5 := Lib.hid ho5
      obtain ⟨ss, hss⟩ : ∃ ss, ss = sortI ys := ⟨_, rfl⟩
      have hsl2 : ss.length = ys.length := by rw [hss]; exact sortI_len ys
      rw [← hss] at HMS HO5
      obtain ⟨n7, hn7x⟩ : ∃ n, n = ys.length := ⟨_, rfl⟩
      rw [← hn7x] at HMS HO5 hsl2 ⊢
      obtain ⟨ms, hms⟩ : ∃ ms, ms = cmpL ss := ⟨_, rfl⟩
      obtain ⟨m7, hm7⟩ : ∃ m, m = ms.length := ⟨_, rfl⟩
      have hcm : Calls Tryz.prog 27 #[.slice A7 n7 c7] wc fun e w' => e = .returned (.slice A7 m7 c7) ∧ Owns w' W12.heap.size 3 1 intE (.slice A7 m7 c7) ms ∧ wc.grownBy w' (Value.slice A7 n7 c7).ownBlock := by
       have h := compact_any ss A7 c7 W12.heap.size wc (by rw [hsl2]; exact HO5.out) (by omega)
       rw [hsl2, ← hms, ← hm7] at h
       exact h
      have hcd : Calls Tryz.prog 27 #[.slice A7 n7 c7] wc.drew fun e w' => e = .returned (.slice A7 m7 c7) ∧ Owns w' W12.heap.size 3 1 intE (.slice A7 m7 c7) ms ∧ wc.grownBy w' (Value.slice A7 n7 c7).ownBlock := by
       have h := compact_any ss A7 c7 W12.heap.size wc.drew (by rw [hsl2]; exact HO5.out) (by omega)
       rw [hsl2, ← hms, ← hm7] at h
       exact h.mono (fun e w' k => ⟨k.1, k.2.1, grown_undrew k.2.2⟩)
      have HCM := Lib.hid hcm
      have HCD := Lib.hid hcd
      have HMS2 : Hid (ms = newFr d.fs term known q.fr) := Lib.hid (by rw [hms, hss, HYA.out, HF.out]; rfl)
      have HBPO : Hid (O12 bP) := Lib.hid (by rw [HO12.out, HOO.out]; exact .inl (.inr rfl))
      have p6 := (HMS.out.l.bx HP12.out HBPO.out).1 6 _ rfl
      have p6d : wc.drew.cell? ⟨bP, 6, none⟩ = some (.slice (some ⟨ba, 0, none⟩) hs0.length vc) := p6
      have hpne : bP ≠ ba := fun e => (HMS.out.l.ot bP HBPO.out).2.2.2.1 (by rw [e]; rfl)
      have HFR : Hid (∀ (X : World) (v : Value), (X.setCell ⟨ba, k * 6 + 5, none⟩ v).cell? ⟨bP, 6, none⟩ = X.cell? ⟨bP, 6, none⟩) := Lib.hid (fun X v => World.cell?_of_block (Below.heap_setCell _ _ _ _ (by first | exact hpne | exact hpne.symm)))
      have hkz : (0 : Int) ≤ (k : Int) := by omega
      have hkl2 : (k : Int) < (hs0.length : Int) := by omega
      clear hcm hcd hms hss hsl2 hn7x hm7 ho5 hg5 HSO
      go_upto_region 26 with fail
      go_region_held3 (fun w' => w'.cell? ⟨bP, 6, none⟩ = some (.slice (some ⟨ba, 0, none⟩) hs0.length vc)) (first | with_reducible exact p6 | with_reducible exact p6d | with_reducible exact e6 | with_reducible exact (HFR.out _ _).trans e6) ((go_at_call 27; refine Calls.mono (by first | exact HCM.out | exact HCD.out) ?_; rintro e w4x ⟨rfl, ho4, hg4⟩; have e6 := ((HMS.out.app hg4 (.inl (own_len A7 m7 n7 c7)) ho4).l.bx HP12.out HBPO.out).1 6 _ rfl; obtain ⟨g1, hg1, hg2, hg3, hg5, hg6, hg7⟩ := (HMS.out.app hg4 (.inl (own_len A7 m7 n7 c7)) ho4).l.rq.setF HXS.out ⟨A7, m7, c7⟩; simp only [Option.some.injEq, Addr.mk.injEq, and_true] at hg1; subst hg1; have e5 := (HMS.out.app hg4 (.inl (own_len A7 m7 n7 c7)) ho4).l.rq.cellF HXS.out))
      have HM4 := Lib.hid (HMS.out.app hg4 (.inl (own_len A7 m7 n7 c7)) ho4)
      have HW4 := Lib.hid hg7
      have HON := Lib.hid ho4
      clear ho4 hg4 hg7 e5 e6 hg2 hg3 hg6 p6 p6d hkz hkl2 hpne
      go_wp2_with fail
      go_roundw
      case rel =>
       refine ⟨k + 1, w4x.heap.size, done ++ [(⟨A7, m7, c7⟩, ms)], rs2, v92, by omega, by go_num, ?_, ?_, ?_⟩
       ·rw [List.map_append, HDN.out, take_snoc_of HQK.out, List.map_append, HMS2.out]
        rfl
       ·have h1 := HRK.out
        have h2 : q.fr.length * 10301 ≤ 1048576 * 10301 := Nat.mul_le_mul_right _ hqf
        omega
       ·have hX := HX0.out
        rw [hsOf_set hs0 done k HDL.out _ hX]
        refine (((HM4.out.l.raise HM4.out.l.zW (Nat.le_refl _)).store hg5 (.slice A7 m7 c7) HW4.out ((SlR.of_own intE_len_ HON.out).mono3 (fun b hb hl => ⟨hl, ?_, HM4.out.ap b hb, fun e => ?_⟩))).back (fun k hk => by rw [HO12.out]; exact .inl hk) HBK.out)
        ·have h1 := HON.out.base_le b hb
         have h2 := HM4.out.l.zB
         omega
        ·have h1 := HON.out.base_le b hb
         have h2 := (HM4.out.l.aq b e).1
         omega
      case measure => simp [intOf]; omega
   ·obtain rfl : hs0.length = k := by omega
    have HAr := Lib.hid (HI.out.bx HA11.out (by rw [HOO.out, HO9.out]; exact .inl (.inr (.inl rfl))))
    have HCr := Lib.hid (HI.out.bx HC11.out (by rw [HOO.out, HO9.out]; exact .inl (.inr (.inr (.inl rfl)))))
    have HEr := Lib.hid (HI.out.bx HE11.out (by rw [HOO.out, HO9.out]; exact .inl (.inr (.inr (.inr (.inl rfl))))))
    have HPr := Lib.hid (HI.out.bx HP11.out (by rw [HOO.out]; exact .inr rfl))
    have HUr := Lib.hid (HI.out.owns HU11.out (fun k e => by rw [HOO.out, HO9.out]; exact .inl (.inr (.inr (.inr (.inr e))))))
    have HRr : Hid (Bx wr bR [v91]) := Lib.hid (by rw [HBRE.out]; exact HI.out.br)
    have HWr : Hid (Below w.heap.size w wr) := Lib.hid HI.out.bw
    rw [List.take_of_length_le (by rw [HLEN.out]; exact Nat.le_refl _)] at hdn
    have HRQ : Hid (Rqs wr (fun _ => True) ⟨vA, hs0.length, vc⟩ (wideP d.fs term known p).reqs) := Lib.hid (HI.out.rqs HLEN.out HAT.out hdn)
    have HSU : Hid (SlR wr (fun _ => True) 5 At.enc ⟨uA, ct.length, uc⟩ ct) := Lib.hid ((SlR.of_owns At.enc_len HUr.out).mono (fun _ _ => trivial))
    have hctl : ct.length ≤ 100000 := by
     have h := cnt_le d student term known l
     rw [← HCZ.out] at h
     exact Nat.le_trans h hrl
    have hmi := HXO.out.2
    simp only at hmi
    have HMI := Lib.hid hmi
    obtain ⟨av9, cv9, rfl, _, _⟩ := HI.out.rd.shape
    have hlr : (wideP d.fs term known p).reqs.length = hs0.length := by rw [HLEN.out]; simp [wideP]
    have HLR := Lib.hid hlr
    clear HI H12 H13 HP11 HA11 HC11 HE11 H011 HU11 hdn hrk p6 a2 hmi hlr hlt hk
    obtain ⟨a0, a1, a2⟩ := HPr.out
    have p0 := a0 0 _ rfl
    have p1 := a0 1 _ rfl
    have p2 := a0 2 _ rfl
    have p3 := a0 3 _ rfl
    have p4 := a0 4 _ rfl
    have p5 := a0 5 _ rfl
    have p6 := a0 6 _ rfl
    clear a0 a1
    obtain ⟨b0, b1, b2⟩ := HAr.out
    have s0 := b0 0 _ rfl
    have s1 := b0 1 _ rfl
    have s2 := b0 2 _ rfl
    have f0 := b1 0
    have f1 := b1 1
    have f2 := b1 2
    clear b0 b1
    by_cases hask : askedE (wideP d.fs term known p) ct = 0
    rotate_left
    ·
     have hau := Audit_fails (P := fun _ => True) (wideP d.fs term known p) ⟨vA, hs0.length, vc⟩ ct uA uc wr HRQ.out HMI.out HSU.out.reads hctl hask
     obtain ⟨E9, hE9⟩ : ∃ E, E = askedE (wideP d.fs term known p) ct := ⟨_, rfl⟩
     rw [← hE9] at hau hask
     have HAU := Lib.hid hau
     clear hau hE9
     go_wp2_with fail
     refine HAU.out.mono ?_
     rintro e wd ⟨rfl, hbd⟩
     have HAd := Lib.hid (HAr.out.step hbd)
     have HCd := Lib.hid (HCr.out.step hbd)
     have HEd := Lib.hid (HEr.out.step hbd)
     have HRd := Lib.hid (HRr.out.step hbd)
     have HWd := Lib.hid (HWr.out.trans (hbd.mono HWr.out.size))
     clear p0 p1 p2 p3 p4 p5 p6 s0 s1 s2 f0 f1 f2 hbd
     obtain ⟨b0, b1, b2⟩ := HAd.out
     have s0 := b0 0 _ rfl
     have s1 := b0 1 _ rfl
     have s2 := b0 2 _ rfl
     have f0 := b1 0
     have f1 := b1 1
     have f2 := b1 2
     clear b0 b1
     go_wp2_with fail
     change Calls _ _ _ (thrW wd bA (.slice none 0 0) (.int .i64 0) (.slice none 0 0)) _
     obtain ⟨FX, g2, g3, g4⟩ := thr_set HAd.out (.slice none 0 0) (.int .i64 0) (.slice none 0 0)
     obtain ⟨W28, hW28⟩ : ∃ X, X = thrW wd bA (.slice none 0 0) (.int .i64 0) (.slice none 0 0) := ⟨_, rfl⟩
     rw [← hW28] at FX g2 g3 g4 ⊢
     have FA := Lib.hid FX
     have FC := Lib.hid (HCd.out.else (Nat.le_of_eq g3.symm) (g4 bC (by have := HQ.out; omega)))
     have FR := Lib.hid (HRd.out.else (Nat.le_of_eq g3.symm) (g4 bR (by have := HQ.out; omega)))
     have FE := Lib.hid (HEd.out.else (Nat.le_of_eq g3.symm) (g4 bE (by have := HQ.out; omega)))
     have FW : Hid (Below w.heap.size w W28) := Lib.hid (HWd.out.trans (g2 _ (by have := HQ.out; omega)))
     clear hW28 FX g2 g3 g4 s0 s1 s2 f0 f1 f2
     refine (try_no (E9) hask W28).mono ?_
     rintro e wf ⟨rfl, rfl⟩
     refine ⟨by simp, .inr ⟨fun h => by simp [Fence.wide] at h, _, _, 19, #[.pointer (some ⟨bA, 0, none⟩), .pointer (some ⟨bC, 0, none⟩), .pointer (some ⟨bR, 0, none⟩), .pointer (some ⟨bE, 0, none⟩)], rfl, rfl, fun _ _ => trivial, (of_caught 5 _ _ _ _ (E9) _ _ _ _ _ _ W28 FA.out FC.out FR.out FE.out (by have := HQ.out; omega) (by have := HQ.out; omega) (by have := HQ.out; omega)).mono ?_⟩⟩
     rintro e u' w9 ⟨rfl, hu, g1, g2, g3, g4, g5⟩
     have k0 := g1.1 0 _ rfl
     have k1 := g1.1 1 _ rfl
     have k2 := g1.1 2 _ rfl
     have k3 := g2.1 0 _ rfl
     have k4 := g3.1 0 _ rfl
     have k5 := g4.1 0 _ rfl
     show LeavesInM _ _ _ _ _ _ [] (settle u') w9
     rw [hu]
     exact ⟨.tuple #[.agg #[.slice none 0 0, .int .i64 0, .slice none 0 0], .bool false, .slice none 0 0, .int .i64 (E9)], by simp [results, Tryz.results6, go_sem, k0, k1, k2, k3, k4, k5], .inl ⟨_, E9, rfl, .inr hask⟩, FW.out.trans (g5 _ (by have := HQ.out; omega))⟩
    cases hX : Fl.okX (1 + (ct.length : Int) + ((wideP d.fs term known p).reqs.length : Int) + 1) (netL (wideP d.fs term known p) ct) 0 (1 + (ct.length : Int) + ((wideP d.fs term known p).reqs.length : Int))
    ·
     have hau := Audit_big (P := fun _ => True) (wideP d.fs term known p) ⟨vA, hs0.length, vc⟩ ct uA uc wr HRQ.out HMI.out HSU.out hctl hX (by rw [HLR.out]; omega) hask
     have HAU := Lib.hid hau
     clear hau hX
     go_wp2_with fail
     refine HAU.out.mono ?_
     rintro e wd ⟨rfl, hbd⟩
     have HAd := Lib.hid (HAr.out.step hbd)
     have HCd := Lib.hid (HCr.out.step hbd)
     have HEd := Lib.hid (HEr.out.step hbd)
     have HRd := Lib.hid (HRr.out.step hbd)
     have HWd := Lib.hid (HWr.out.trans (hbd.mono HWr.out.size))
     clear p0 p1 p2 p3 p4 p5 p6 s0 s1 s2 f0 f1 f2 hbd
     obtain ⟨b0, b1, b2⟩ := HAd.out
     have s0 := b0 0 _ rfl
     have s1 := b0 1 _ rfl
     have s2 := b0 2 _ rfl
     have f0 := b1 0
     have f1 := b1 1
     have f2 := b1 2
     clear b0 b1
     go_wp2_with fail
     change Calls _ _ _ (thrW wd bA (.slice none 0 0) (.int .i64 0) (.slice none 0 0)) _
     obtain ⟨FX, g2, g3, g4⟩ := thr_set HAd.out (.slice none 0 0) (.int .i64 0) (.slice none 0 0)
     obtain ⟨W28, hW28⟩ : ∃ X, X = thrW wd bA (.slice none 0 0) (.int .i64 0) (.slice none 0 0) := ⟨_, rfl⟩
     rw [← hW28] at FX g2 g3 g4 ⊢
     have FA := Lib.hid FX
     have FC := Lib.hid (HCd.out.else (Nat.le_of_eq g3.symm) (g4 bC (by have := HQ.out; omega)))
     have FR := Lib.hid (HRd.out.else (Nat.le_of_eq g3.symm) (g4 bR (by have := HQ.out; omega)))
     have FE := Lib.hid (HEd.out.else (Nat.le_of_eq g3.symm) (g4 bE (by have := HQ.out; omega)))
     have FW : Hid (Below w.heap.size w W28) := Lib.hid (HWd.out.trans (g2 _ (by have := HQ.out; omega)))
     clear hW28 FX g2 g3 g4 s0 s1 s2 f0 f1 f2
     refine (try_no (180) (by decide) W28).mono ?_
     rintro e wf ⟨rfl, rfl⟩
     refine ⟨by simp, .inr ⟨fun h => by simp [Fence.wide] at h, _, _, 19, #[.pointer (some ⟨bA, 0, none⟩), .pointer (some ⟨bC, 0, none⟩), .pointer (some ⟨bR, 0, none⟩), .pointer (some ⟨bE, 0, none⟩)], rfl, rfl, fun _ _ => trivial, (of_caught 5 _ _ _ _ (180) _ _ _ _ _ _ W28 FA.out FC.out FR.out FE.out (by have := HQ.out; omega) (by have := HQ.out; omega) (by have := HQ.out; omega)).mono ?_⟩⟩
     rintro e u' w9 ⟨rfl, hu, g1, g2, g3, g4, g5⟩
     have k0 := g1.1 0 _ rfl
     have k1 := g1.1 1 _ rfl
     have k2 := g1.1 2 _ rfl
     have k3 := g2.1 0 _ rfl
     have k4 := g3.1 0 _ rfl
     have k5 := g4.1 0 _ rfl
     show LeavesInM _ _ _ _ _ _ [] (settle u') w9
     rw [hu]
     exact ⟨.tuple #[.agg #[.slice none 0 0, .int .i64 0, .slice none 0 0], .bool false, .slice none 0 0, .int .i64 (180)], by simp [results, Tryz.results6, go_sem, k0, k1, k2, k3, k4, k5], .inl ⟨_, 180, rfl, .inr (by decide)⟩, FW.out.trans (g5 _ (by have := HQ.out; omega))⟩
    have HASK := Lib.hid hask
    have HXX := Lib.hid hX
    clear hask hX
    have hfit : 2 + ct.length + (wideP d.fs term known p).reqs.length ≤ 4096 ∧ (netL (wideP d.fs term known p) ct).length ≤ 65536 := by
     have h := HXX.out
     unfold Fl.okX at h
     have h1 := Fl.okN_out ((Bool.and_eq_true _ _).mp h).1
     omega
    have hau := Audit_any (P := fun _ => True) (wideP d.fs term known p) ⟨vA, hs0.length, vc⟩ ct uA uc wr HRQ.out HMI.out HSU.out hctl hfit HASK.out
    unfold auV at hau
    simp only at hau
    have HAU := Lib.hid hau
    have HFT : Hid (ct.length ≤ 5000) := Lib.hid (by omega)
    clear hau hfit
    go_wp2_with fail
    refine HAU.out.mono ?_
    rintro e wd ⟨⟨us, M, cs, D, C, dd, cc, rfl, huo, hae, hM, hul2, hus, hcs⟩, hbd⟩
    obtain ⟨Cb, rfl, hcb, hcs2⟩ := cut_apart hcs (cut_first hae)
    have HAd := Lib.hid (HAr.out.step hbd)
    have HCd := Lib.hid (HCr.out.step hbd)
    have HEd := Lib.hid (HEr.out.step hbd)
    have HRd := Lib.hid (HRr.out.step hbd)
    have HPd := Lib.hid (HPr.out.step hbd)
    have HUd := Lib.hid (HUr.out.below hbd (Nat.le_refl _))
    have HWd := Lib.hid (HWr.out.trans (hbd.mono HWr.out.size))
    have HCN : Hid (Cb ≠ bA ∧ Cb ≠ bC ∧ Cb ≠ bR ∧ Cb ≠ bE) := Lib.hid (by
     refine ⟨fun e => ?_, fun e => ?_, fun e => ?_, fun e => ?_⟩
     ·have h := HAd.out.1 0 _ rfl; rw [← e, hcb] at h; cases h
     ·have h := HCd.out.1 0 _ rfl; rw [← e, hcb] at h; cases h
     ·have h := HRd.out.1 0 _ rfl; rw [← e, hcb] at h; cases h
     ·have h := HEd.out.1 0 _ rfl; rw [← e, hcb] at h; cases h)
    have HUO := Lib.hid huo
    have HAE := Lib.hid hae
    have HMM := Lib.hid hM
    have HUS := Lib.hid hus
    have HCS := Lib.hid hcs2
    have HWZ : Hid (w.heap.size + 5 ≤ wr.heap.size) := Lib.hid (by have h1 := HUr.out; have h2 := HPr.out.2.2; have h3 := HPZ.out; omega)
    clear p0 p1 p2 p3 p4 p5 p6 s0 s1 s2 f0 f1 f2 hbd huo hae hM hus hcs hcs2 hcb
    obtain ⟨b0, b1, b2⟩ := HAd.out
    have s0 := b0 0 _ rfl
    have s1 := b0 1 _ rfl
    have s2 := b0 2 _ rfl
    have f0 := b1 0
    have f1 := b1 1
    have f2 := b1 2
    clear b0 b1
    go_wp2_with fail
    change Calls _ _ _ (thrW wd bA (.slice D us.length dd) (.int .i64 M) (.slice (some ⟨Cb, 0, none⟩) cs.length cc)) _
    obtain ⟨FX, g2, g3, g4⟩ := thr_set HAd.out (.slice D us.length dd) (.int .i64 M) (.slice (some ⟨Cb, 0, none⟩) cs.length cc)
    obtain ⟨W28, hW28⟩ : ∃ X, X = thrW wd bA (.slice D us.length dd) (.int .i64 M) (.slice (some ⟨Cb, 0, none⟩) cs.length cc) := ⟨_, rfl⟩
    rw [← hW28] at FX g2 g3 g4 ⊢
    have GA := Lib.hid FX
    have GC := Lib.hid (HCd.out.else (Nat.le_of_eq g3.symm) (g4 bC (by have := HQ.out; omega)))
    have GR := Lib.hid (HRd.out.else (Nat.le_of_eq g3.symm) (g4 bR (by have := HQ.out; omega)))
    have GE := Lib.hid (HEd.out.else (Nat.le_of_eq g3.symm) (g4 bE (by have := HQ.out; omega)))
    have GP := Lib.hid (HPd.out.else (Nat.le_of_eq g3.symm) (g4 bP (by have := HQ.out; have := HPZ.out; omega)))
    have GW : Hid (Below w.heap.size w W28) := Lib.hid (HWd.out.trans (g2 _ (by have := HQ.out; omega)))
    have GU := Lib.hid (HUd.out.same (fun k e => g4 k (by have h1 := HUd.out.base_le k e; have h2 := HZ7.out; have h3 := HQ.out; omega)))
    have GS : Hid (SlR W28 (fun x => wr.heap.size ≤ x) 3 Us.enc ⟨D, us.length, dd⟩ us) := Lib.hid (HUS.out.keep ⟨Nat.le_of_eq g3.symm, fun b hb _ => g4 b (by have h2 := HWZ.out; have h3 := HQ.out; omega)⟩)
    have GK : Hid (SlR W28 (fun b => b = Cb) 1 boolE ⟨some ⟨Cb, 0, none⟩, cs.length, cc⟩ cs) := Lib.hid (HCS.out.keep ⟨Nat.le_of_eq g3.symm, fun b hb _ => g4 b (by rw [hb]; exact HCN.out.1)⟩)
    clear hW28 FX g2 g3 g4 s0 s1 s2 f0 f1 f2 HAd HCd HEd HRd HPd HUd HWd HUS HCS HAU HAr HCr HEr HRr HPr HUr HWr HRQ HSU
    refine (try_ok W28).mono ?_
    rintro e wf ⟨rfl, rfl⟩
    obtain ⟨en, ee, hE⟩ : ∃ a b, (a, b) = earnedA ct := ⟨_, _, rfl⟩
    obtain ⟨⟨mn, md⟩, me, hMe⟩ : ∃ a b, (a, b) = meanA ct := ⟨_, _, rfl⟩
    obtain ⟨cv, ce, hCe⟩ : ∃ a b, (a, b) = cmpP ⟨mn, md⟩ p.mean := ⟨_, _, rfl⟩
    have HEA := Lib.hid hE
    have HME := Lib.hid hMe
    have HCE := Lib.hid hCe
    have hmi2 := meanA_i64_ ct
    rw [← hMe] at hmi2
    have HMI2 := Lib.hid hmi2
    have h30 := Earned_any ct uA uc W28 (GU.out.reads At.enc_len) hctl
    rw [← hE] at h30
    have H30 := Lib.hid h30
    clear hE hMe hCe hmi2 h30
    go_wp2_with fail
    refine H30.out.mono ?_
    rintro e w30 ⟨rfl, hb30⟩
    have GA := Lib.hid (GA.out.step hb30)
    have GC := Lib.hid (GC.out.step hb30)
    have GE := Lib.hid (GE.out.step hb30)
    have GR := Lib.hid (GR.out.step hb30)
    have GP := Lib.hid (GP.out.step hb30)
    have GS := Lib.hid (GS.out.step hb30)
    have GK := Lib.hid (GK.out.step hb30)
    have GW := Lib.hid (GW.out.trans (hb30.mono GW.out.size))
    have GU := Lib.hid (GU.out.below hb30 (Nat.le_refl _))
    clear hb30 H30
    go_wp2_with fail
    by_cases hz1 : ee = 0
    rotate_left
    ·
     refine (try_no (ee) hz1 w30).mono ?_
     rintro e wf ⟨rfl, rfl⟩
     refine ⟨by simp, .inr ⟨fun h => by simp [Fence.wide] at h, _, _, 19, #[.pointer (some ⟨bA, 0, none⟩), .pointer (some ⟨bC, 0, none⟩), .pointer (some ⟨bR, 0, none⟩), .pointer (some ⟨bE, 0, none⟩)], rfl, rfl, fun _ _ => trivial, (of_caught 5 _ _ _ _ (ee) _ _ _ _ _ _ w30 GA.out GC.out GR.out GE.out (by have := HQ.out; omega) (by have := HQ.out; omega) (by have := HQ.out; omega)).mono ?_⟩⟩
     rintro e u' w9 ⟨rfl, hu, g1, g2, g3, g4, g5⟩
     have k0 := g1.1 0 _ rfl
     have k1 := g1.1 1 _ rfl
     have k2 := g1.1 2 _ rfl
     have k3 := g2.1 0 _ rfl
     have k4 := g3.1 0 _ rfl
     have k5 := g4.1 0 _ rfl
     show LeavesInM _ _ _ _ _ _ [] (settle u') w9
     rw [hu]
     exact ⟨.tuple #[.agg #[.slice none 0 0, .int .i64 0, .slice none 0 0], .bool false, .slice none 0 0, .int .i64 (ee)], by simp [results, Tryz.results6, go_sem, k0, k1, k2, k3, k4, k5], .inl ⟨_, ee, rfl, .inr hz1⟩, GW.out.trans (g5 _ (by have := HQ.out; omega))⟩
    subst hz1
    refine (try_ok w30).mono ?_
    rintro e wf ⟨rfl, rfl⟩
    have h32 := Mean_any ct uA uc w30 (GU.out.reads At.enc_len) hctl
    rw [← HME.out] at h32
    simp only [Ra.v] at h32
    have H32 := Lib.hid h32
    clear h32
    go_wp2_with fail
    refine H32.out.mono ?_
    rintro e w32 ⟨rfl, hb32⟩
    have GA := Lib.hid (GA.out.step hb32)
    have GC := Lib.hid (GC.out.step hb32)
    have GE := Lib.hid (GE.out.step hb32)
    have GR := Lib.hid (GR.out.step hb32)
    have GP := Lib.hid (GP.out.step hb32)
    have GS := Lib.hid (GS.out.step hb32)
    have GK := Lib.hid (GK.out.step hb32)
    have GW := Lib.hid (GW.out.trans (hb32.mono GW.out.size))
    have GU := Lib.hid (GU.out.below hb32 (Nat.le_refl _))
    clear hb32 H32
    go_wp2_with fail
    obtain ⟨bM, hbM⟩ : ∃ b, b = w32.heap.size := ⟨_, rfl⟩
    obtain ⟨W33, hW33⟩ : ∃ X, X = w32.alloc (.cells #[.int .i64 mn, .int .i64 md] 41) := ⟨_, rfl⟩
    have hst : Below w32.heap.size w32 W33 := by rw [hW33]; exact (Below.refl _ _).alloc (Nat.le_refl _) _
    have GM : Hid (Bx W33 bM [.int .i64 mn, .int .i64 md]) := Lib.hid (by rw [hW33, hbM]; exact Bx.new w32 [.int .i64 mn, .int .i64 md] _)
    have GA := Lib.hid (GA.out.step hst)
    have GC := Lib.hid (GC.out.step hst)
    have GE := Lib.hid (GE.out.step hst)
    have GR := Lib.hid (GR.out.step hst)
    have GP := Lib.hid (GP.out.step hst)
    have GS := Lib.hid (GS.out.step hst)
    have GK := Lib.hid (GK.out.step hst)
    have GW := Lib.hid (GW.out.trans (hst.mono GW.out.size))
    have GU := Lib.hid (GU.out.below hst (Nat.le_refl _))
    rw [← hW33]
    try rw [← hbM]
    clear hW33 hbM hst
    by_cases hz2 : me = 0
    rotate_left
    ·
     refine (try_no (me) hz2 W33).mono ?_
     rintro e wf ⟨rfl, rfl⟩
     refine ⟨by simp, .inr ⟨fun h => by simp [Fence.wide] at h, _, _, 19, #[.pointer (some ⟨bA, 0, none⟩), .pointer (some ⟨bC, 0, none⟩), .pointer (some ⟨bR, 0, none⟩), .pointer (some ⟨bE, 0, none⟩)], rfl, rfl, fun _ _ => trivial, (of_caught 5 _ _ _ _ (me) _ _ _ _ _ _ W33 GA.out GC.out GR.out GE.out (by have := HQ.out; omega) (by have := HQ.out; omega) (by have := HQ.out; omega)).mono ?_⟩⟩
     rintro e u' w9 ⟨rfl, hu, g1, g2, g3, g4, g5⟩
     have k0 := g1.1 0 _ rfl
     have k1 := g1.1 1 _ rfl
     have k2 := g1.1 2 _ rfl
     have k3 := g2.1 0 _ rfl
     have k4 := g3.1 0 _ rfl
     have k5 := g4.1 0 _ rfl
     show LeavesInM _ _ _ _ _ _ [] (settle u') w9
     rw [hu]
     exact ⟨.tuple #[.agg #[.slice none 0 0, .int .i64 0, .slice none 0 0], .bool false, .slice none 0 0, .int .i64 (me)], by simp [results, Tryz.results6, go_sem, k0, k1, k2, k3, k4, k5], .inl ⟨_, me, rfl, .inr hz2⟩, GW.out.trans (g5 _ (by have := HQ.out; omega))⟩
    subst hz2
    refine (try_ok W33).mono ?_
    rintro e wf ⟨rfl, rfl⟩
    have h34 := RaCompare_any ⟨mn, md⟩ p.mean HMI2.out HMI.out W33
    rw [← HCE.out] at h34
    simp only [Ra.v] at h34
    have H34 := Lib.hid h34
    obtain ⟨a0, a1, a2⟩ := GP.out
    have p4 := a0 4 _ rfl
    have p5 := a0 5 _ rfl
    obtain ⟨b0, b1, b2⟩ := GM.out
    have s0 := b0 0 _ rfl
    have s1 := b0 1 _ rfl
    clear h34 a0 a1 b0 b1
    go_wp2_with fail
    clear p4 p5 s0 s1
    refine H34.out.mono ?_
    rintro e w34 ⟨rfl, hb34⟩
    have GA := Lib.hid (GA.out.step hb34)
    have GC := Lib.hid (GC.out.step hb34)
    have GE := Lib.hid (GE.out.step hb34)
    have GR := Lib.hid (GR.out.step hb34)
    have GP := Lib.hid (GP.out.step hb34)
    have GS := Lib.hid (GS.out.step hb34)
    have GK := Lib.hid (GK.out.step hb34)
    have GW := Lib.hid (GW.out.trans (hb34.mono GW.out.size))
    have GU := Lib.hid (GU.out.below hb34 (Nat.le_refl _))
    clear hb34 H34
    go_wp2_with fail
    by_cases hz3 : ce = 0
    rotate_left
    ·
     refine (try_no (ce) hz3 w34).mono ?_
     rintro e wf ⟨rfl, rfl⟩
     refine ⟨by simp, .inr ⟨fun h => by simp [Fence.wide] at h, _, _, 19, #[.pointer (some ⟨bA, 0, none⟩), .pointer (some ⟨bC, 0, none⟩), .pointer (some ⟨bR, 0, none⟩), .pointer (some ⟨bE, 0, none⟩)], rfl, rfl, fun _ _ => trivial, (of_caught 5 _ _ _ _ (ce) _ _ _ _ _ _ w34 GA.out GC.out GR.out GE.out (by have := HQ.out; omega) (by have := HQ.out; omega) (by have := HQ.out; omega)).mono ?_⟩⟩
     rintro e u' w9 ⟨rfl, hu, g1, g2, g3, g4, g5⟩
     have k0 := g1.1 0 _ rfl
     have k1 := g1.1 1 _ rfl
     have k2 := g1.1 2 _ rfl
     have k3 := g2.1 0 _ rfl
     have k4 := g3.1 0 _ rfl
     have k5 := g4.1 0 _ rfl
     show LeavesInM _ _ _ _ _ _ [] (settle u') w9
     rw [hu]
     exact ⟨.tuple #[.agg #[.slice none 0 0, .int .i64 0, .slice none 0 0], .bool false, .slice none 0 0, .int .i64 (ce)], by simp [results, Tryz.results6, go_sem, k0, k1, k2, k3, k4, k5], .inl ⟨_, ce, rfl, .inr hz3⟩, GW.out.trans (g5 _ (by have := HQ.out; omega))⟩
    subst hz3
    refine (try_ok w34).mono ?_
    rintro e wf ⟨rfl, rfl⟩
    obtain ⟨x0, x1, x2⟩ := GA.out
    obtain ⟨y0, y1, y2⟩ := GC.out
    obtain ⟨z0, z1, z2⟩ := GR.out
    obtain ⟨u0, u1, u2⟩ := GE.out
    have p0 := x0 0 _ rfl
    have p1 := x0 1 _ rfl
    have p2 := x0 2 _ rfl
    have f0 := x1 0
    have f1 := x1 1
    have f2 := x1 2
    have p3 := y0 0 _ rfl
    have f3 := y1 0
    have p4 := z0 0 _ rfl
    have f4 := z1 0
    have p5 := u0 0 _ rfl
    have f5 := u1 0
    have p6 := GP.out.1 3 _ rfl
    have n1 : bA ≠ bC := by have := HQ.out; omega
    have n2 : bA ≠ bR := by have := HQ.out; omega
    have n3 : bA ≠ bE := by have := HQ.out; omega
    have n4 : bC ≠ bR := by have := HQ.out; omega
    have n5 : bC ≠ bE := by have := HQ.out; omega
    have n6 : bR ≠ bE := by have := HQ.out; omega
    have n7 : bP ≠ bA := by have := HQ.out; have := HPZ.out; omega
    clear x0 x1 y0 y1 z0 z1 u0 u1 hmf
    obtain ⟨BB, hBB⟩ : ∃ b, b = (decide (M = 0) && (decide (p.earn ≤ en) && decide (0 ≤ cv))) := ⟨_, rfl⟩
    have HBB := Lib.hid hBB
    go_upto_region 36 with fail
    go_cut [] from 152 to 166 (fun wx => wx = sixW w34 bA bC bR bE (.slice D us.length dd) (.int .i64 M) (.slice (some ⟨Cb, 0, none⟩) cs.length cc) (.bool BB) (.slice av9 rs.length cv9) (.int .i64 0))
    case first =>
     have n8 : bP ≠ bC := by have := HQ.out; have := HPZ.out; omega
     have n9 : bP ≠ bR := by have := HQ.out; have := HPZ.out; omega
     have n10 : bP ≠ bE := by have := HQ.out; have := HPZ.out; omega
     obtain ⟨hS0, hSa, hSb, hSc, hSd⟩ := reg36 (bC := bC) (bE := bE) GA.out GR.out p6 n1 n2 n3 n4 n6 n7 n8 n9 n10 (.bool BB) (.int .i64 0)
     clear p6 x2 y2 z2 u2
     by_cases m0 : M = 0
     ·have b1 : (M == 0) = true := by simpa using m0
      have b2 : decide (M = 0) = true := by simpa using m0
      by_cases e0 : p.earn ≤ en
      ·have b3 : decide (p.earn ≤ en) = true := by simpa using e0
       obtain rfl : BB = decide (0 ≤ cv) := by rw [hBB, b2, b3]; rfl
       clear hBB m0
       refine wp_region_noPanic ?_
       refine wp_region_held_drew (S := S36 bA bR bP (.slice D us.length dd) (.int .i64 M) (.slice (some ⟨Cb, 0, none⟩) cs.length cc) (.slice av9 rs.length cv9) (.int .i64 p.earn)) (by kernel_rfl) hS0 (fun hHeld => ?_)
       refine wpAnyH_take (i := 0) (v := ?_) rfl (by kernel_rfl) (by kernel_rfl) (by kernel_rfl) (fun _ _ _ h => h) (Or.inl ⟨by kernel_rfl, ?_⟩) (by assumption) ?_
       rotate_left
       ·intro w hSw
        (try dsimp only at hSw)
        simp only [S36] at hSw; go_simp
        try with_reducible rfl
       simp only [Act.put, List.setIfInBounds_toArray, List.set_cons_zero, List.set_cons_succ]
       refine wpAnyH_take (i := 1) (v := ?_) rfl (by kernel_rfl) (by kernel_rfl) (by kernel_rfl) (fun _ _ _ h => h) (Or.inl ⟨by kernel_rfl, ?_⟩) (by assumption) ?_
       rotate_left
       ·intro w hSw
        (try dsimp only at hSw)
        simp only [S36] at hSw; go_simp
        try with_reducible rfl
       simp only [Act.put, List.setIfInBounds_toArray, List.set_cons_zero, List.set_cons_succ]
       refine wpAnyH_take (i := 2) (v := ?_) rfl (by kernel_rfl) (by kernel_rfl) (by kernel_rfl) (fun _ _ _ h => h) (Or.inl ⟨by kernel_rfl, ?_⟩) (by assumption) ?_
       rotate_left
       ·intro w hSw
        (try dsimp only at hSw)
        simp only [S36] at hSw; go_simp
        try with_reducible rfl
       simp only [Act.put, List.setIfInBounds_toArray, List.set_cons_zero, List.set_cons_succ]
       refine wpAnyH_take (i := 3) (v := ?_) rfl (by kernel_rfl) (by kernel_rfl) (by kernel_rfl) (fun _ _ _ h => h) (Or.inl ⟨by kernel_rfl, ?_⟩) (by assumption) ?_
       rotate_left
       ·intro w hSw
        (try dsimp only at hSw)
        simp only [S36] at hSw; go_simp
        try with_reducible rfl
       simp only [Act.put, List.setIfInBounds_toArray, List.set_cons_zero, List.set_cons_succ]
       refine wpAnyH_take (i := 4) (v := ?_) rfl (by kernel_rfl) (by kernel_rfl) (by kernel_rfl) (fun _ _ _ h => h) (Or.inl ⟨by kernel_rfl, ?_⟩) (by assumption) ?_
       rotate_left
       ·intro w hSw
        (try dsimp only at hSw)
        simp only [S36] at hSw; go_simp
        try with_reducible rfl
       simp only [Act.put, List.setIfInBounds_toArray, List.set_cons_zero, List.set_cons_succ]
       refine wpAnyH_take (i := 5) (v := ?_) rfl (by kernel_rfl) (by kernel_rfl) (by kernel_rfl) (fun _ _ _ h => h) (Or.inl ⟨by kernel_rfl, ?_⟩) (by assumption) ?_
       rotate_left
       ·intro w hSw
        (try dsimp only at hSw)
        simp only [S36] at hSw; go_simp
        try with_reducible rfl
       simp only [Act.put, List.setIfInBounds_toArray, List.set_cons_zero, List.set_cons_succ]
       refine wpAnyH_take (i := 6) (v := ?_) rfl (by kernel_rfl) (by kernel_rfl) (by kernel_rfl) (fun _ _ _ h => h) (Or.inl ⟨by kernel_rfl, ?_⟩) (by assumption) ?_
       rotate_left
       ·intro w hSw
        (try dsimp only at hSw)
        simp only [S36] at hSw; go_simp
        try with_reducible rfl
       simp only [Act.put, List.setIfInBounds_toArray, List.set_cons_zero, List.set_cons_succ]
       refine wpAnyH_take (i := 7) (v := ?_) rfl (by kernel_rfl) (by kernel_rfl) (by kernel_rfl) (fun _ _ _ h => h) (Or.inl ⟨by kernel_rfl, ?_⟩) (by assumption) ?_
       rotate_left
       ·intro w hSw
        (try dsimp only at hSw)
        simp only [S36] at hSw; go_simp
        try with_reducible rfl
       simp only [Act.put, List.setIfInBounds_toArray, List.set_cons_zero, List.set_cons_succ]
       refine wpAnyH_take (i := 8) (v := ?_) rfl (by kernel_rfl) (by kernel_rfl) (by kernel_rfl) (fun _ _ _ h => h) (Or.inl ⟨by kernel_rfl, ?_⟩) (by assumption) ?_
       rotate_left
       ·intro w hSw
        (try dsimp only at hSw)
        simp only [S36] at hSw; go_simp
        try with_reducible rfl
       simp only [Act.put, List.setIfInBounds_toArray, List.set_cons_zero, List.set_cons_succ]
       refine wpAnyH_take (i := 9) (v := ?_) rfl (by kernel_rfl) (by kernel_rfl) (by kernel_rfl) (fun _ _ _ h => h) (Or.inl ⟨by kernel_rfl, ?_⟩) (by assumption) ?_
       rotate_left
       ·intro w hSw
        (try dsimp only at hSw)
        simp only [S36] at hSw; go_simp
        try with_reducible rfl
       simp only [Act.put, List.setIfInBounds_toArray, List.set_cons_zero, List.set_cons_succ]
       refine wpAnyH_take (i := 10) (v := ?_) rfl (by kernel_rfl) (by kernel_rfl) (by kernel_rfl) (fun _ _ _ h => h) (Or.inl ⟨by kernel_rfl, ?_⟩) (by assumption) ?_
       rotate_left
       ·intro w hSw
        (try dsimp only at hSw)
        simp only [S36] at hSw; go_simp
        try with_reducible rfl
       simp only [Act.put, List.setIfInBounds_toArray, List.set_cons_zero, List.set_cons_succ]
       refine wpAnyH_take (i := 11) (v := ?_) rfl (by kernel_rfl) (by kernel_rfl) (by kernel_rfl) (fun _ _ _ h => h) (Or.inl ⟨by kernel_rfl, ?_⟩) (by assumption) ?_
       rotate_left
       ·intro w hSw
        (try dsimp only at hSw)
        simp only [S36] at hSw; go_simp
        try with_reducible rfl
       simp only [Act.put, List.setIfInBounds_toArray, List.set_cons_zero, List.set_cons_succ]
       refine wpAnyH_take (i := 12) (v := ?_) rfl (by kernel_rfl) (by kernel_rfl) (by kernel_rfl) (fun _ _ _ h => h) (Or.inl ⟨by kernel_rfl, ?_⟩) (by assumption) ?_
       rotate_left
       ·intro w hSw
        (try dsimp only at hSw)
        simp only [S36] at hSw; go_simp
        try with_reducible rfl
       simp only [Act.put, List.setIfInBounds_toArray, List.set_cons_zero, List.set_cons_succ]
       refine wpAnyH_take (i := 13) (v := ?_) rfl (by kernel_rfl) (by kernel_rfl) (by kernel_rfl) (fun _ _ _ h => h) (Or.inl ⟨by kernel_rfl, ?_⟩) (by assumption) ?_
       rotate_left
       ·intro w hSw
        (try dsimp only at hSw)
        simp only [S36] at hSw; go_simp
        try with_reducible rfl
       simp only [Act.put, List.setIfInBounds_toArray, List.set_cons_zero, List.set_cons_succ]
       refine wpAnyH_take (i := 14) (v := ?_) rfl (by kernel_rfl) (by kernel_rfl) (by kernel_rfl) (fun _ _ _ h => h) (Or.inl ⟨by kernel_rfl, ?_⟩) (by assumption) ?_
       rotate_left
       ·intro w hSw
        (try dsimp only at hSw)
        simp only [S36] at hSw; go_simp
        try with_reducible rfl
       simp only [Act.put, List.setIfInBounds_toArray, List.set_cons_zero, List.set_cons_succ]
       refine wpAnyH_ready (rs := [15]) (by kernel_rfl) (by simp) ?_
       refine AllReadyH.cons rfl (fun K hK => ?_) AllReadyH.nil
       go_simp
       refine hK.out _ _ hSa (fun hHeld => ?_)
       clear hK hHeld
       refine wpAnyH_ready (rs := [16]) (by kernel_rfl) (by simp) ?_
       refine AllReadyH.cons rfl (fun K hK => ?_) AllReadyH.nil
       go_simp
       refine hK.out _ _ hSb (fun hHeld => ?_)
       clear hK hHeld
       refine wpAnyH_ready (rs := [17]) (by kernel_rfl) (by simp) ?_
       refine AllReadyH.cons rfl (fun K hK => ?_) AllReadyH.nil
       go_simp
       refine hK.out _ _ hSc (fun hHeld => ?_)
       clear hK hHeld
       refine wpAnyH_ready (rs := [18]) (by kernel_rfl) (by simp) ?_
       refine AllReadyH.cons rfl (fun K hK => ?_) AllReadyH.nil
       go_simp
       refine hK.out _ _ hSd (fun hHeld => ?_)
       clear hK hHeld
       refine wpAnyH_done (by kernel_rfl) ?_ _
       refine NoPanic.normal ?_
       go_wp2_with fail
       go_meet
       rfl
      ·have b3 : decide (p.earn ≤ en) = false := by simpa using e0
       obtain rfl : BB = false := by rw [hBB, b2, b3]; rfl
       clear hBB m0
       refine wp_region_noPanic ?_
       refine wp_region_held_drew (S := S36 bA bR bP (.slice D us.length dd) (.int .i64 M) (.slice (some ⟨Cb, 0, none⟩) cs.length cc) (.slice av9 rs.length cv9) (.int .i64 p.earn)) (by kernel_rfl) hS0 (fun hHeld => ?_)
       refine wpAnyH_take (i := 0) (v := ?_) rfl (by kernel_rfl) (by kernel_rfl) (by kernel_rfl) (fun _ _ _ h => h) (Or.inl ⟨by kernel_rfl, ?_⟩) (by assumption) ?_
       rotate_left
       ·intro w hSw
        (try dsimp only at hSw)
        simp only [S36] at hSw; go_simp
        try with_reducible rfl
       simp only [Act.put, List.setIfInBounds_toArray, List.set_cons_zero, List.set_cons_succ]
       refine wpAnyH_take (i := 1) (v := ?_) rfl (by kernel_rfl) (by kernel_rfl) (by kernel_rfl) (fun _ _ _ h => h) (Or.inl ⟨by kernel_rfl, ?_⟩) (by assumption) ?_
       rotate_left
       ·intro w hSw
        (try dsimp only at hSw)
        simp only [S36] at hSw; go_simp
        try with_reducible rfl
       simp only [Act.put, List.setIfInBounds_toArray, List.set_cons_zero, List.set_cons_succ]
       refine wpAnyH_take (i := 2) (v := ?_) rfl (by kernel_rfl) (by kernel_rfl) (by kernel_rfl) (fun _ _ _ h => h) (Or.inl ⟨by kernel_rfl, ?_⟩) (by assumption) ?_
       rotate_left
       ·intro w hSw
        (try dsimp only at hSw)
        simp only [S36] at hSw; go_simp
        try with_reducible rfl
       simp only [Act.put, List.setIfInBounds_toArray, List.set_cons_zero, List.set_cons_succ]
       refine wpAnyH_take (i := 3) (v := ?_) rfl (by kernel_rfl) (by kernel_rfl) (by kernel_rfl) (fun _ _ _ h => h) (Or.inl ⟨by kernel_rfl, ?_⟩) (by assumption) ?_
       rotate_left
       ·intro w hSw
        (try dsimp only at hSw)
        simp only [S36] at hSw; go_simp
        try with_reducible rfl
       simp only [Act.put, List.setIfInBounds_toArray, List.set_cons_zero, List.set_cons_succ]
       refine wpAnyH_take (i := 4) (v := ?_) rfl (by kernel_rfl) (by kernel_rfl) (by kernel_rfl) (fun _ _ _ h => h) (Or.inl ⟨by kernel_rfl, ?_⟩) (by assumption) ?_
       rotate_left
       ·intro w hSw
        (try dsimp only at hSw)
        simp only [S36] at hSw; go_simp
        try with_reducible rfl
       simp only [Act.put, List.setIfInBounds_toArray, List.set_cons_zero, List.set_cons_succ]
       refine wpAnyH_take (i := 5) (v := ?_) rfl (by kernel_rfl) (by kernel_rfl) (by kernel_rfl) (fun _ _ _ h => h) (Or.inl ⟨by kernel_rfl, ?_⟩) (by assumption) ?_
       rotate_left
       ·intro w hSw
        (try dsimp only at hSw)
        simp only [S36] at hSw; go_simp
        try with_reducible rfl
       simp only [Act.put, List.setIfInBounds_toArray, List.set_cons_zero, List.set_cons_succ]
       refine wpAnyH_take (i := 6) (v := ?_) rfl (by kernel_rfl) (by kernel_rfl) (by kernel_rfl) (fun _ _ _ h => h) (Or.inl ⟨by kernel_rfl, ?_⟩) (by assumption) ?_
       rotate_left
       ·intro w hSw
        (try dsimp only at hSw)
        simp only [S36] at hSw; go_simp
        try with_reducible rfl
       simp only [Act.put, List.setIfInBounds_toArray, List.set_cons_zero, List.set_cons_succ]
       refine wpAnyH_take (i := 7) (v := ?_) rfl (by kernel_rfl) (by kernel_rfl) (by kernel_rfl) (fun _ _ _ h => h) (Or.inl ⟨by kernel_rfl, ?_⟩) (by assumption) ?_
       rotate_left
       ·intro w hSw
        (try dsimp only at hSw)
        simp only [S36] at hSw; go_simp
        try with_reducible rfl
       simp only [Act.put, List.setIfInBounds_toArray, List.set_cons_zero, List.set_cons_succ]
       refine wpAnyH_take (i := 8) (v := ?_) rfl (by kernel_rfl) (by kernel_rfl) (by kernel_rfl) (fun _ _ _ h => h) (Or.inl ⟨by kernel_rfl, ?_⟩) (by assumption) ?_
       rotate_left
       ·intro w hSw
        (try dsimp only at hSw)
        simp only [S36] at hSw; go_simp
        try with_reducible rfl
       simp only [Act.put, List.setIfInBounds_toArray, List.set_cons_zero, List.set_cons_succ]
       refine wpAnyH_take (i := 9) (v := ?_) rfl (by kernel_rfl) (by kernel_rfl) (by kernel_rfl) (fun _ _ _ h => h) (Or.inl ⟨by kernel_rfl, ?_⟩) (by assumption) ?_
       rotate_left
       ·intro w hSw
        (try dsimp only at hSw)
        simp only [S36] at hSw; go_simp
        try with_reducible rfl
       simp only [Act.put, List.setIfInBounds_toArray, List.set_cons_zero, List.set_cons_succ]
       refine wpAnyH_take (i := 10) (v := ?_) rfl (by kernel_rfl) (by kernel_rfl) (by kernel_rfl) (fun _ _ _ h => h) (Or.inl ⟨by kernel_rfl, ?_⟩) (by assumption) ?_
       rotate_left
       ·intro w hSw
        (try dsimp only at hSw)
        simp only [S36] at hSw; go_simp
        try with_reducible rfl
       simp only [Act.put, List.setIfInBounds_toArray, List.set_cons_zero, List.set_cons_succ]
       refine wpAnyH_take (i := 11) (v := undef) rfl (by kernel_rfl) (by kernel_rfl) (by kernel_rfl) (fun _ _ _ h => h) (Or.inr ⟨by kernel_rfl, rfl⟩) (by assumption) ?_
       simp only [Act.put, List.setIfInBounds_toArray, List.set_cons_zero, List.set_cons_succ]
       refine wpAnyH_take (i := 12) (v := undef) rfl (by kernel_rfl) (by kernel_rfl) (by kernel_rfl) (fun _ _ _ h => h) (Or.inr ⟨by kernel_rfl, rfl⟩) (by assumption) ?_
       simp only [Act.put, List.setIfInBounds_toArray, List.set_cons_zero, List.set_cons_succ]
       refine wpAnyH_take (i := 13) (v := ?_) rfl (by kernel_rfl) (by kernel_rfl) (by kernel_rfl) (fun _ _ _ h => h) (Or.inl ⟨by kernel_rfl, ?_⟩) (by assumption) ?_
       rotate_left
       ·intro w hSw
        (try dsimp only at hSw)
        simp only [S36] at hSw; go_simp
        try with_reducible rfl
       simp only [Act.put, List.setIfInBounds_toArray, List.set_cons_zero, List.set_cons_succ]
       refine wpAnyH_take (i := 14) (v := ?_) rfl (by kernel_rfl) (by kernel_rfl) (by kernel_rfl) (fun _ _ _ h => h) (Or.inl ⟨by kernel_rfl, ?_⟩) (by assumption) ?_
       rotate_left
       ·intro w hSw
        (try dsimp only at hSw)
        simp only [S36] at hSw; go_simp
        try with_reducible rfl
       simp only [Act.put, List.setIfInBounds_toArray, List.set_cons_zero, List.set_cons_succ]
       refine wpAnyH_ready (rs := [15]) (by kernel_rfl) (by simp) ?_
       refine AllReadyH.cons rfl (fun K hK => ?_) AllReadyH.nil
       go_simp
       refine hK.out _ _ hSa (fun hHeld => ?_)
       clear hK hHeld
       refine wpAnyH_ready (rs := [16]) (by kernel_rfl) (by simp) ?_
       refine AllReadyH.cons rfl (fun K hK => ?_) AllReadyH.nil
       go_simp
       refine hK.out _ _ hSb (fun hHeld => ?_)
       clear hK hHeld
       refine wpAnyH_ready (rs := [17]) (by kernel_rfl) (by simp) ?_
       refine AllReadyH.cons rfl (fun K hK => ?_) AllReadyH.nil
       go_simp
       refine hK.out _ _ hSc (fun hHeld => ?_)
       clear hK hHeld
       refine wpAnyH_ready (rs := [18]) (by kernel_rfl) (by simp) ?_
       refine AllReadyH.cons rfl (fun K hK => ?_) AllReadyH.nil
       go_simp
       refine hK.out _ _ hSd (fun hHeld => ?_)
       clear hK hHeld
       refine wpAnyH_done (by kernel_rfl) ?_ _
       refine NoPanic.normal ?_
       go_wp2_with fail
       go_meet
       rfl
     ·have b1 : (M == 0) = false := by simpa using m0
      have b2 : decide (M = 0) = false := by simpa using m0
      obtain rfl : BB = false := by rw [hBB]; simp [m0]
      clear hBB
      refine wp_region_noPanic ?_
      refine wp_region_held_drew (S := S36 bA bR bP (.slice D us.length dd) (.int .i64 M) (.slice (some ⟨Cb, 0, none⟩) cs.length cc) (.slice av9 rs.length cv9) (.int .i64 p.earn)) (by kernel_rfl) hS0 (fun hHeld => ?_)
      refine wpAnyH_take (i := 0) (v := ?_) rfl (by kernel_rfl) (by kernel_rfl) (by kernel_rfl) (fun _ _ _ h => h) (Or.inl ⟨by kernel_rfl, ?_⟩) (by assumption) ?_
      rotate_left
      ·intro w hSw
       (try dsimp only at hSw)
       simp only [S36] at hSw; go_simp
       try with_reducible rfl
      simp only [Act.put, List.setIfInBounds_toArray, List.set_cons_zero, List.set_cons_succ]
      refine wpAnyH_take (i := 1) (v := ?_) rfl (by kernel_rfl) (by kernel_rfl) (by kernel_rfl) (fun _ _ _ h => h) (Or.inl ⟨by kernel_rfl, ?_⟩) (by assumption) ?_
      rotate_left
      ·intro w hSw
       (try dsimp only at hSw)
       simp only [S36] at hSw; go_simp
       try with_reducible rfl
      simp only [Act.put, List.setIfInBounds_toArray, List.set_cons_zero, List.set_cons_succ]
      refine wpAnyH_take (i := 2) (v := ?_) rfl (by kernel_rfl) (by kernel_rfl) (by kernel_rfl) (fun _ _ _ h => h) (Or.inl ⟨by kernel_rfl, ?_⟩) (by assumption) ?_
      rotate_left
      ·intro w hSw
       (try dsimp only at hSw)
       simp only [S36] at hSw; go_simp
       try with_reducible rfl
      simp only [Act.put, List.setIfInBounds_toArray, List.set_cons_zero, List.set_cons_succ]
      refine wpAnyH_take (i := 3) (v := ?_) rfl (by kernel_rfl) (by kernel_rfl) (by kernel_rfl) (fun _ _ _ h => h) (Or.inl ⟨by kernel_rfl, ?_⟩) (by assumption) ?_
      rotate_left
      ·intro w hSw
       (try dsimp only at hSw)
       simp only [S36] at hSw; go_simp
       try with_reducible rfl
      simp only [Act.put, List.setIfInBounds_toArray, List.set_cons_zero, List.set_cons_succ]
      refine wpAnyH_take (i := 4) (v := ?_) rfl (by kernel_rfl) (by kernel_rfl) (by kernel_rfl) (fun _ _ _ h => h) (Or.inl ⟨by kernel_rfl, ?_⟩) (by assumption) ?_
      rotate_left
      ·intro w hSw
       (try dsimp only at hSw)
       simp only [S36] at hSw; go_simp
       try with_reducible rfl
      simp only [Act.put, List.setIfInBounds_toArray, List.set_cons_zero, List.set_cons_succ]
      refine wpAnyH_take (i := 5) (v := undef) rfl (by kernel_rfl) (by kernel_rfl) (by kernel_rfl) (fun _ _ _ h => h) (Or.inr ⟨by kernel_rfl, rfl⟩) (by assumption) ?_
      simp only [Act.put, List.setIfInBounds_toArray, List.set_cons_zero, List.set_cons_succ]
      refine wpAnyH_take (i := 6) (v := undef) rfl (by kernel_rfl) (by kernel_rfl) (by kernel_rfl) (fun _ _ _ h => h) (Or.inr ⟨by kernel_rfl, rfl⟩) (by assumption) ?_
      simp only [Act.put, List.setIfInBounds_toArray, List.set_cons_zero, List.set_cons_succ]
      refine wpAnyH_take (i := 7) (v := undef) rfl (by kernel_rfl) (by kernel_rfl) (by kernel_rfl) (fun _ _ _ h => h) (Or.inr ⟨by kernel_rfl, rfl⟩) (by assumption) ?_
      simp only [Act.put, List.setIfInBounds_toArray, List.set_cons_zero, List.set_cons_succ]
      refine wpAnyH_take (i := 8) (v := undef) rfl (by kernel_rfl) (by kernel_rfl) (by kernel_rfl) (fun _ _ _ h => h) (Or.inr ⟨by kernel_rfl, rfl⟩) (by assumption) ?_
      simp only [Act.put, List.setIfInBounds_toArray, List.set_cons_zero, List.set_cons_succ]
      refine wpAnyH_take (i := 9) (v := ?_) rfl (by kernel_rfl) (by kernel_rfl) (by kernel_rfl) (fun _ _ _ h => h) (Or.inl ⟨by kernel_rfl, ?_⟩) (by assumption) ?_
      rotate_left
      ·intro w hSw
       (try dsimp only at hSw)
       simp only [S36] at hSw; go_simp
       try with_reducible rfl
      simp only [Act.put, List.setIfInBounds_toArray, List.set_cons_zero, List.set_cons_succ]
      refine wpAnyH_take (i := 10) (v := ?_) rfl (by kernel_rfl) (by kernel_rfl) (by kernel_rfl) (fun _ _ _ h => h) (Or.inl ⟨by kernel_rfl, ?_⟩) (by assumption) ?_
      rotate_left
      ·intro w hSw
       (try dsimp only at hSw)
       simp only [S36] at hSw; go_simp
       try with_reducible rfl
      simp only [Act.put, List.setIfInBounds_toArray, List.set_cons_zero, List.set_cons_succ]
      refine wpAnyH_take (i := 11) (v := undef) rfl (by kernel_rfl) (by kernel_rfl) (by kernel_rfl) (fun _ _ _ h => h) (Or.inr ⟨by kernel_rfl, rfl⟩) (by assumption) ?_
      simp only [Act.put, List.setIfInBounds_toArray, List.set_cons_zero, List.set_cons_succ]
      refine wpAnyH_take (i := 12) (v := undef) rfl (by kernel_rfl) (by kernel_rfl) (by kernel_rfl) (fun _ _ _ h => h) (Or.inr ⟨by kernel_rfl, rfl⟩) (by assumption) ?_
      simp only [Act.put, List.setIfInBounds_toArray, List.set_cons_zero, List.set_cons_succ]
      refine wpAnyH_take (i := 13) (v := ?_) rfl (by kernel_rfl) (by kernel_rfl) (by kernel_rfl) (fun _ _ _ h => h) (Or.inl ⟨by kernel_rfl, ?_⟩) (by assumption) ?_
      rotate_left
      ·intro w hSw
       (try dsimp only at hSw)
       simp only [S36] at hSw; go_simp
       try with_reducible rfl
      simp only [Act.put, List.setIfInBounds_toArray, List.set_cons_zero, List.set_cons_succ]
      refine wpAnyH_take (i := 14) (v := ?_) rfl (by kernel_rfl) (by kernel_rfl) (by kernel_rfl) (fun _ _ _ h => h) (Or.inl ⟨by kernel_rfl, ?_⟩) (by assumption) ?_
      rotate_left
      ·intro w hSw
       (try dsimp only at hSw)
       simp only [S36] at hSw; go_simp
       try with_reducible rfl
      simp only [Act.put, List.setIfInBounds_toArray, List.set_cons_zero, List.set_cons_succ]
      refine wpAnyH_ready (rs := [15]) (by kernel_rfl) (by simp) ?_
      refine AllReadyH.cons rfl (fun K hK => ?_) AllReadyH.nil
      go_simp
      refine hK.out _ _ hSa (fun hHeld => ?_)
      clear hK hHeld
      refine wpAnyH_ready (rs := [16]) (by kernel_rfl) (by simp) ?_
      refine AllReadyH.cons rfl (fun K hK => ?_) AllReadyH.nil
      go_simp
      refine hK.out _ _ hSb (fun hHeld => ?_)
      clear hK hHeld
      refine wpAnyH_ready (rs := [17]) (by kernel_rfl) (by simp) ?_
      refine AllReadyH.cons rfl (fun K hK => ?_) AllReadyH.nil
      go_simp
      refine hK.out _ _ hSc (fun hHeld => ?_)
      clear hK hHeld
      refine wpAnyH_ready (rs := [18]) (by kernel_rfl) (by simp) ?_
      refine AllReadyH.cons rfl (fun K hK => ?_) AllReadyH.nil
      go_simp
      refine hK.out _ _ hSd (fun hHeld => ?_)
      clear hK hHeld
      refine wpAnyH_done (by kernel_rfl) ?_ _
      refine NoPanic.normal ?_
      go_wp2_with fail
      go_meet
      rfl
    case rest =>
     clear p0 p1 p2 p3 p4 p5 p6 f0 f1 f2 f3 f4 f5 n1 n2 n3 n4 n5 n6 n7 x2 y2 z2 u2 hBB
     have hsx := six_set GA.out GC.out GR.out GE.out (by have := HQ.out; omega) (by have := HQ.out; omega) (by have := HQ.out; omega) (.slice D us.length dd) (.int .i64 M) (.slice (some ⟨Cb, 0, none⟩) cs.length cc) (.bool BB) (.slice av9 rs.length cv9) (.int .i64 0)
     rw [← hcut] at hsx
     obtain ⟨g1, g2, g3, g4, g5, g6, g7⟩ := hsx
     have HG := Lib.hid (And.intro g1 (And.intro g2 (And.intro g3 (And.intro g4 g5))))
     have HUF : Hid (SlR wc (fun b => w.heap.size ≤ b) 3 Us.enc ⟨D, us.length, dd⟩ us) := Lib.hid ((GS.out.keep ⟨Nat.le_of_eq g6.symm, fun b hb _ => g7 b (by have h2 := HWZ.out; have h3 := HQ.out; omega) (by have h2 := HWZ.out; have h3 := HQ.out; omega) (by have h2 := HWZ.out; have h3 := HQ.out; omega) (by have h2 := HWZ.out; have h3 := HQ.out; omega)⟩).mono (fun b hb => by have h2 := HWZ.out; omega))
     have HKF : Hid (SlR wc (fun _ => True) 1 boolE ⟨some ⟨Cb, 0, none⟩, cs.length, cc⟩ cs) := Lib.hid ((GK.out.keep ⟨Nat.le_of_eq g6.symm, fun b hb _ => by rw [hb]; exact g7 Cb HCN.out.1 HCN.out.2.1 HCN.out.2.2.1 HCN.out.2.2.2⟩).mono (fun _ _ => trivial))
     clear hcut g1 g2 g3 g4 g5 g6 g7
     go_wp2_with fail
     refine ⟨by simp, .inr ⟨fun h => by simp [Fence.wide] at h, _, _, 19, #[.pointer (some ⟨bA, 0, none⟩), .pointer (some ⟨bC, 0, none⟩), .pointer (some ⟨bR, 0, none⟩), .pointer (some ⟨bE, 0, none⟩)], rfl, rfl, fun _ _ => trivial, (of_idle 5 _ _ _ _ _).mono ?_⟩⟩
     rintro e u' w9z ⟨rfl, rfl, rfl⟩
     obtain ⟨g1, g2, g3, g4, g5⟩ := HG.out
     have k0 := g1.1 0 _ rfl
     have k1 := g1.1 1 _ rfl
     have k2 := g1.1 2 _ rfl
     have k3 := g2.1 0 _ rfl
     have k4 := g3.1 0 _ rfl
     have k5 := g4.1 0 _ rfl
     show LeavesInM _ _ _ _ _ _ [] (settle .returning) _
     refine ⟨.tuple #[.agg #[.slice D us.length dd, .int .i64 M, .slice (some ⟨Cb, 0, none⟩) cs.length cc], .bool BB, .slice av9 rs.length cv9, .int .i64 0], by simp [results, Tryz.results6, go_sem, k0, k1, k2, k3, k4, k5], ?_, ?_⟩
     ·have hC : cntE d student term known (ofR d student term known) = (ct, 0) := by rw [← HL.out]; exact HCZ.out.symm
      have hE : earnedA ct = (en, 0) := HEA.out.symm
      have hMn : meanA ct = (⟨mn, md⟩, 0) := HME.out.symm
      have hcm : cmpP ⟨mn, md⟩ p.mean = (cv, 0) := HCE.out.symm
      refine .inr ⟨⟨p, ⟨rA, rn, rc⟩⟩, HPF.out, hof, ?_, ?_, ?_, ?_, us, M, cs, D, some ⟨Cb, 0, none⟩, dd, cc, .slice av9 rs.length cv9, ?_, ?_, ?_, by rw [HMM.out]; exact congrArg (· - usT us) (totR_map _ _), hul2, by rw [hC]; exact HFT.out, HUF.out, HKF.out⟩
      ·rw [hC]
      ·rw [hC]; show (earnedA ct).2 = 0; rw [hE]
      ·rw [hC]; show (meanA ct).2 = 0; rw [hMn]
      ·rw [hC]; show (cmpP (meanA ct).1 p.mean).2 = 0; rw [hMn]; show (cmpP ⟨mn, md⟩ p.mean).2 = 0; rw [hcm]
      ·rw [hC]
       show _ = Ending.returned (.tuple #[auV _ M _, .bool (decide (M = 0) && (decide (p.earn ≤ (earnedA ct).1) && decide (0 ≤ (cmpP (meanA ct).1 p.mean).1))), _, _])
       rw [hE, hMn]
       show _ = Ending.returned (.tuple #[auV _ M _, .bool (decide (M = 0) && (decide (p.earn ≤ en) && decide (0 ≤ (cmpP ⟨mn, md⟩ p.mean).1))), _, _])
       rw [hcm, HBB.out]
       rfl
      ·rw [hC]; exact HUO.out
      ·rw [hC]; exact HAE.out
     ·exact GW.out.trans (g5 _ (by have := HQ.out; omega))
end Go.Proofs.YtalmbigebjbaoaaGreatDoor
