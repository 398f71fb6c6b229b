/- TopDegree, what its proof leans on: the texts TpH, TpI, TpJ. -/
import Derived.Test.YtalmbigebjbaoaaGreatDoorM23
import Derived.Test.YtalmbigebjbaoaaGreatDoorM34
import Derived.Test.YtalmbigebjbaoaaGreatDoorM43
import Derived.Test.YtalmbigebjbaoaaGreatDoorM42
import Derived.Test.YtalmbigebjbaoaaGreatDoorM41
import Derived.Test.YtalmbigebjbaoaaGreatDoorM26
import Derived.Test.YtalmbigebjbaoaaGreatDoorM38
import Derived.Deep.CutBlock
import Derived.Deep.CutRange
import Derived.BigRegion
namespace Go.Proofs.YtalmbigebjbaoaaGreatDoor
open Go.RowKit Go.Shelf
set_option linter.unusedSimpArgs false
set_option linter.unusedVariables false
attribute [local go_sem] Oper.semAt_some
theorem of_idle (n bA bC bR bE : Nat) (w : World) :
 CallsDIn Fence.wide n Tryz.prog 19 #[.pointer (some ⟨bA, 0, none⟩), .pointer (some ⟨bC, 0, none⟩), .pointer (some ⟨bR, 0, none⟩), .pointer (some ⟨bE, 0, none⟩)] .returning w fun e u' w' => e = .returned (.tuple #[]) ∧ u' = .returning ∧ w' = w := by
 refine callsDIn_of_wpS Tryz.func19 rfl fun c₀ cs hu => ?_
 repeat (first | refine wpS_seq ?_ | apply wpS_region)
 simp [wpOpsS, go_sem, recoverD, hu, Tryz.ntmps19, Exit.thenS]
 refine wpS_of_wp ?_
 simp only [Array.replicate_succ, Array.replicate_zero, List.push_toArray, List.append_toArray, List.nil_append, List.cons_append, List.setIfInBounds_toArray, List.set_cons_succ, List.set_cons_zero]
 go_wp2_with fail
 exact ⟨rfl, .returning, by rw [← hu], .tuple #[], results_none rfl _ _ _, rfl, rfl, rfl⟩
theorem of_caught (n bA bC bR bE : Nat) (e : Int) (a0 a1 a2 c0 r0 e0 : Value) (w : World) (hA : Bx w bA [a0, a1, a2]) (hC : Bx w bC [c0]) (hR : Bx w bR [r0]) (hE : Bx w bE [e0]) (h1 : bA < bC) (h2 : bC < bR) (h3 : bR < bE) :
 CallsDIn Fence.wide n Tryz.prog 19 #[.pointer (some ⟨bA, 0, none⟩), .pointer (some ⟨bC, 0, none⟩), .pointer (some ⟨bR, 0, none⟩), .pointer (some ⟨bE, 0, none⟩)] (.panicking (failE e)) w fun r u' w' => r = .returned (.tuple #[]) ∧ settle u' = .returning ∧
  Bx w' bA [.slice none 0 0, .int .i64 0, .slice none 0 0] ∧ Bx w' bC [.bool false] ∧ Bx w' bR [.slice none 0 0] ∧ Bx w' bE [.int .i64 e] ∧ ∀ B, B ≤ bA → Below B w w' := by
 refine callsDIn_of_wpS Tryz.func19 rfl fun c₀ cs hu => ?_
 unfold failE at hu
 repeat (first | refine wpS_seq ?_ | apply wpS_region)
 simp [wpOpsS, go_sem, recoverD, hu, Tryz.ntmps19, Exit.thenS]
 refine wpS_of_wp ?_
 simp only [Array.replicate_succ, Array.replicate_zero, List.push_toArray, List.append_toArray, List.nil_append, List.cons_append, List.setIfInBounds_toArray, List.set_cons_succ, List.set_cons_zero]
 obtain ⟨W1, hW1⟩ : ∃ X, X = ((((w.setCell ⟨bA, 0, none⟩ (.slice none 0 0)).setCell ⟨bA, 1, none⟩ (.int .i64 0)).setCell ⟨bA, 2, none⟩ (.slice none 0 0)).setCell ⟨bC, 0, none⟩ (.bool false)).setCell ⟨bR, 0, none⟩ (.slice none 0 0) := ⟨_, rfl⟩
 have kA : Bx W1 bA [.slice none 0 0, .int .i64 0, .slice none 0 0] := by
  rw [hW1]
  exact ((((hA.setAt (i := 0) (by simp) _).setAt (i := 1) (by simp) _).setAt (i := 2) (by simp) _).farC (by show bA ≠ bC; omega) _).farC (by show bA ≠ bR; omega) _
 have kC : Bx W1 bC [.bool false] := by
  rw [hW1]
  exact ((((hC.farC (by show bC ≠ bA; omega) _).farC (by show bC ≠ bA; omega) _).farC (by show bC ≠ bA; omega) _).set1 _).farC (by show bC ≠ bR; omega) _
 have kR : Bx W1 bR [.slice none 0 0] := by
  rw [hW1]
  exact ((((hR.farC (by show bR ≠ bA; omega) _).farC (by show bR ≠ bA; omega) _).farC (by show bR ≠ bA; omega) _).farC (by show bR ≠ bC; omega) _).set1 _
 have kE : Bx W1 bE [e0] := by
  rw [hW1]
  exact ((((hE.farC (by show bE ≠ bA; omega) _).farC (by show bE ≠ bA; omega) _).farC (by show bE ≠ bA; omega) _).farC (by show bE ≠ bC; omega) _).farC (by show bE ≠ bR; omega) _
 have kB : ∀ B, B ≤ bA → Below B w W1 := fun B hB => by
  rw [hW1]
  exact (((((Below.refl B w).setCell (by show B ≤ bA; omega) _).setCell (by show B ≤ bA; omega) _).setCell (by show B ≤ bA; omega) _).setCell (by show B ≤ bC; omega) _).setCell (by show B ≤ bR; omega) _
 have HK := Lib.hid (And.intro kA (And.intro kC (And.intro kR (And.intro kE kB))))
 obtain ⟨x0, x1, x2⟩ := hA
 obtain ⟨y0, y1, y2⟩ := hC
 obtain ⟨z0, z1, z2⟩ := hR
 have p0 := x0 0 _ rfl
 have p1 := x0 1 _ rfl
 have p2 := x0 2 _ rfl
 have f0 := x1 0
 have f1 := x1 1
 have f2 := x1 2
 have q0 := y0 0 _ rfl
 have g0 := y1 0
 have s0 := z0 0 _ rfl
 have t0 := z1 0
 have n1 : bA ≠ bC := by omega
 have n2 : bA ≠ bR := by omega
 have n3 : bC ≠ bR := by omega
 clear kA kC kR kE kB x0 x1 y0 y1 z0 z1 hE
 go_upto_region 3 with fail
 rw [← hW1]
 clear hW1
 obtain ⟨kA, kC, kR, kE, kB⟩ := HK.out
 go_wp2_with fail
 refine (caught_fail e bE e0 W1 kE).mono ?_
 rintro r w1 ⟨rfl, rfl⟩
 go_wp2_with fail
 refine ⟨rfl, _, rfl, .tuple #[], results_none rfl _ _ _, rfl, rfl, ?_, ?_, ?_, ?_, ?_⟩
 ·exact (kA.farC (by show bA ≠ bE; omega) _).alloc _
 ·exact (kC.farC (by show bC ≠ bE; omega) _).alloc _
 ·exact (kR.farC (by show bR ≠ bE; omega) _).alloc _
 ·exact (kE.set1 _).alloc _
 ·exact fun B hB => ((kB B hB).setCell (by show B ≤ bE; omega) _).alloc (by rw [World.size_setCell]; have := (kB B hB).size; have := kE.2.2; omega) _
set_option maxRecDepth 100000 in
set_option maxHeartbeats 4000000 in
theorem ofAdd_any (bR B : Nat) (v : Value) (rs xs : List Rd) (A : Option Addr) (c : Nat) (W : World) (hR : Bx W bR [v]) (hb : bR < B) (ho : Owns W B 130 5 Rd.enc v rs) (hx : Reads W W.heap.size A 5 Rd.enc xs) (hnil : A = none → c = 0) (hm : rs.length + xs.length ≤ 1099511627776) (hB : B ≤ W.heap.size) :
 Calls Tryz.prog 21 #[.slice A xs.length c, .pointer (some ⟨bR, 0, none⟩)] W fun e w' => e = .returned (.tuple #[]) ∧ ∃ v', Bx w' bR [v'] ∧ Owns w' B 130 5 Rd.enc v' (rs ++ xs) ∧ (v'.ownBlock = v.ownBlock ∨ v'.ownBlock = some W.heap.size) ∧
  W.heap.size ≤ w'.heap.size ∧ w'.os = W.os ∧ w'.tape = W.tape ∧ w'.output = W.output ∧ ∀ k, k < W.heap.size → k ≠ bR → v.ownBlock ≠ some k → w'.heap[k]? = W.heap[k]? := by
 obtain ⟨i0, hi0, hz0, hz1, hz2⟩ := info_parts Tryz.infoRd
 have HI0 := Lib.hid hi0
 have HO := Lib.hid ho
 have HX := Lib.hid hx
 have HR := Lib.hid hR
 obtain ⟨A5, c5, rfl, _, hmax⟩ := ho.shape
 obtain ⟨x0, x1, x2⟩ := hR
 have p0 := x0 0 _ rfl
 have q0 := x1 0
 clear hi0 ho hx x0 x1 hmax
 go_enter Tryz.func21, Tryz.ntmps21
 go_wp2_with (at_builtin; refine stop_mk ?_)
 refine stop_out (wpList_append_reads (en := Rd.enc) (sz := 5) _ rfl _ _ _ rfl Rd.enc_len_ Rd.enc_one B 130 i0 _ 40 Tryz.underlying36 HI0.out hz0 hz1 hz2 rfl (by omega) _ rs rfl HO.out W.heap.size A c xs rfl HX.out hnil (by simp [maxLen]; omega) (by omega) hB ?_)
 intro v2 w2 ho2 hg2 hob _
 have hr : ∀ g, (Value.slice A5 rs.length c5).ownBlock = some g → B ≤ g := HO.out.base_le
 have HB2 : Hid (Bx w2 bR [.slice A5 rs.length c5]) := Lib.hid (HR.out.keep (P := fun y => y = bR) (Kp.of_grown2 hg2 (fun y hy e => by have := hr y e.symm; omega)) rfl)
 obtain ⟨y0, y1, y2⟩ := HB2.out
 have p0 := y0 0 _ rfl
 have q0 := y1 0
 have HO2 := Lib.hid ho2
 have HG2 := Lib.hid hg2
 have HOB := Lib.hid hob
 obtain ⟨A6, c6, rfl, _, _⟩ := ho2.shape
 rw [List.length_append] at HO2 HOB
 clear y0 y1 ho2 hg2 hob
 go_wp2_with fail
 go_end0
 refine ⟨rfl, .slice A6 (rs.length + xs.length) c6, HB2.out.set1 _, HO2.out.farS hb _, HOB.out, by simp [World.setCell]; exact HG2.out.size, HG2.out.os, HG2.out.tape, HG2.out.output, fun k hk h1 h2 => (Below.heap_setCell _ _ _ _ (by first | exact h1 | exact h1.symm)).trans (HG2.out.block k hk (fun e => h2 e.symm))⟩
end Go.Proofs.YtalmbigebjbaoaaGreatDoor
namespace Go.Proofs.YtalmbigebjbaoaaGreatDoor
open Go.RowKit Go.Shelf
set_option linter.unusedSimpArgs false
set_option linter.unusedVariables false
theorem SlR.mono3 {α : Type} {w : World} {P Q : Nat → Prop} {sz : Nat} {en : α → List Value} {s : Sl} {xs : List α} (h : SlR w P sz en s xs) (hq : ∀ b, P b → b < w.heap.size → Q b) : SlR w Q sz en s xs := by
 refine ⟨h.1, h.2.1, h.2.2.1, h.2.2.2.1, h.2.2.2.2.1, fun hn a e => ?_⟩
 obtain ⟨b, o, e2, hb, _⟩ := h.2.2.2.2.1 hn
 have e3 : a = ⟨b, o, none⟩ := by rw [e] at e2; exact Option.some.inj e2
 have h9 := h.2.2.2.2.2 hn a e
 rw [e3] at h9 ⊢
 exact hq _ h9 hb
theorem Owns.setF {W : World} {B : Nat} {e : TypeId} {A : Option Addr} {n c : Nat} {hs : List RqH} (h : Owns W B e 6 RqH.enc (.slice A n c) hs) {k : Nat} {x : RqH} (hk : hs[k]? = some x) (s : Sl) :
 ∃ g, A = some ⟨g, 0, none⟩ ∧ B ≤ g ∧ g < W.heap.size ∧ (Value.slice A n c).ownBlock = some g ∧ W.frozen? ⟨g, k * 6 + 5, none⟩ = false ∧ Owns (W.setCell ⟨g, k * 6 + 5, none⟩ (.slice s.a s.n s.c)) B e 6 RqH.enc (.slice A n c) (hs.set k { x with fr := s }) := by
 have hkl := (List.getElem?_eq_some_iff.1 hk).1
 rcases h.2 with ⟨_, h2⟩ | ⟨g, cap, cur, hv, h2, h3, h4, h5, h6, h7⟩
 ·omega
 ·simp only [Value.slice.injEq] at hv
  obtain ⟨rfl, rfl, rfl⟩ := hv
  have hfl : (hs.set k { x with fr := s }).flatMap RqH.enc = (hs.flatMap RqH.enc).set (k * 6 + 5) (.slice s.a s.n s.c) := by
   apply List.ext_getElem?
   intro j
   have l1 := flat_length RqH.enc_len hs
   have l2 := flat_length RqH.enc_len (hs.set k { x with fr := s })
   rw [List.length_set] at l2
   by_cases hj : j < hs.length * 6
   ·have hq : j / 6 < hs.length := by omega
    have hm : j % 6 < 6 := Nat.mod_lt _ (by omega)
    have hxj : ∀ (ys : List RqH) (y : RqH), ys[j / 6]? = some y → (ys.flatMap RqH.enc)[j]? = (RqH.enc y)[j % 6]? := fun ys y hy => by
     have hm2 : j % 6 < (RqH.enc y).length := by rw [RqH.enc_len]; exact hm
     have := flat_get RqH.enc_len ys (j / 6) y (j % 6) (RqH.enc y)[j % 6] hy (List.getElem?_eq_getElem hm2)
     rw [Nat.div_add_mod'] at this
     rw [this, List.getElem?_eq_getElem hm2]
    rw [List.getElem?_set]
    by_cases e1 : k = j / 6
    ·have h8 : (hs.set k { x with fr := s })[j / 6]? = some { x with fr := s } := by rw [← e1, List.getElem?_set_self hkl]
     rw [hxj _ _ h8]
     have h9 := hxj hs x (by rw [← e1]; exact hk)
     by_cases e2 : j % 6 = 5
     ·rw [if_pos (by omega), if_pos (by rw [l1]; omega), e2]
      rfl
     ·rw [if_neg (by omega), h9]
      have : j % 6 = 0 ∨ j % 6 = 1 ∨ j % 6 = 2 ∨ j % 6 = 3 ∨ j % 6 = 4 := by omega
      rcases this with e | e | e | e | e <;> rw [e] <;> rfl
    ·rw [if_neg (by omega)]
     have h8 : (hs.set k { x with fr := s })[j / 6]? = some hs[j / 6] := by rw [List.getElem?_set_ne e1]; exact List.getElem?_eq_getElem hq
     rw [hxj _ _ h8, hxj hs _ (List.getElem?_eq_getElem hq)]
   ·rw [List.getElem?_eq_none (by rw [l2]; omega), List.getElem?_eq_none (by rw [List.length_set, l1]; omega)]
  refine ⟨g, rfl, h2, (Array.getElem?_eq_some_iff.1 h3).1, rfl, by simp [World.frozen?, h3], ⟨by rw [flat_length RqH.enc_len], .inr ⟨g, c, cur.setIfInBounds (k * 6 + 5) (.slice s.a s.n s.c), by simp, h2, heap_setCell_same W g _ _ _ _ h3, by simpa using h4, h5, by simpa using h6, ?_⟩⟩⟩
  rw [hfl, ← h7, List.length_set, Array.toList_setIfInBounds, List.take_set]
structure OfL (w : World) (O : Nat → Prop) (Wr : World) (z : Nat) (hs : List RqH) (vq : Value) (done : List (Sl × List Int)) (rs : List Rd) (v9 : Value) (W : World) : Prop where
 br : Bx W (w.heap.size + 3) [v9]
 rd : Owns W (w.heap.size + 5) 130 5 Rd.enc v9 rs
 rq : Owns W (w.heap.size + 5) 67 6 RqH.enc vq hs
 dn : ∀ s ns, (s, ns) ∈ done → SlR W (fun b => b < z ∧ w.heap.size + 5 ≤ b ∧ v9.ownBlock ≠ some b ∧ vq.ownBlock ≠ some b) 1 intE s ns
 aq : ∀ k, vq.ownBlock = some k → k < z ∧ v9.ownBlock ≠ some k
 bw : Below w.heap.size w W
 zW : z ≤ W.heap.size
 zB : w.heap.size + 5 ≤ z
 ot : ∀ k, O k → k < z ∧ k ≠ w.heap.size + 3 ∧ v9.ownBlock ≠ some k ∧ vq.ownBlock ≠ some k ∧ W.heap[k]? = Wr.heap[k]?
section
variable {w Wr W W' : World} {O : Nat → Prop} {z z' : Nat} {hs : List RqH} {vq : Value} {done : List (Sl × List Int)} {rs : List Rd} {v9 : Value}
theorem OfL.step (h : OfL w O Wr z hs vq done rs v9 W) (hb : Below W.heap.size W W') : OfL w O Wr z hs vq done rs v9 W' :=
 ⟨h.br.step hb, h.rd.below hb (Nat.le_refl _), h.rq.below hb (Nat.le_refl _), fun s ns m => (h.dn s ns m).step hb, h.aq, h.bw.trans (hb.mono h.bw.size), Nat.le_trans h.zW hb.size, h.zB, fun k hk => by
   obtain ⟨a1, a2, a3, a4, a5⟩ := h.ot k hk
   exact ⟨a1, a2, a3, a4, (hb.block k (Nat.lt_of_lt_of_le a1 h.zW)).trans a5⟩⟩
theorem OfL.raise (h : OfL w O Wr z hs vq done rs v9 W) (h1 : z ≤ z') (h2 : z' ≤ W.heap.size) : OfL w O Wr z' hs vq done rs v9 W :=
 ⟨h.br, h.rd, h.rq, fun s ns m => (h.dn s ns m).mono (fun b ⟨p, q⟩ => ⟨Nat.lt_of_lt_of_le p h1, q⟩), fun k e => ⟨Nat.lt_of_lt_of_le (h.aq k e).1 h1, (h.aq k e).2⟩, h.bw, h2, Nat.le_trans h.zB h1, fun k hk => by
   obtain ⟨a1, a2⟩ := h.ot k hk
   exact ⟨Nat.lt_of_lt_of_le a1 h1, a2⟩⟩
theorem OfL.grow (h : OfL w O Wr z hs vq done rs v9 W) {row : Option Nat} (hg : W.grownBy W' row) (hr : ∀ g, row = some g → z ≤ g ∧ v9.ownBlock ≠ some g) : OfL w O Wr z hs vq done rs v9 W' := by
 have hzB := h.zB
 have hzW := h.zW
 refine ⟨h.br.keep (P := fun y => y = w.heap.size + 3) (Kp.of_grown2 hg (fun y hy e => by have := hr y e.symm; omega)) rfl, h.rd.kept hg (fun g hg2 e => (hr g e).2 hg2), h.rq.kept hg (fun g hg2 e => by have := h.aq g hg2; have := hr g e; omega), fun s ns m => (h.dn s ns m).keep (Kp.of_grown2 hg (fun b hb e => by have := hr b e.symm; have := hb.1; omega)), h.aq, h.bw.grown hg h.bw.size (fun q e => by have := hr q e; omega), Nat.le_trans hzW hg.size, hzB, fun k hk => ?_⟩
 obtain ⟨a1, a2, a3, a4, a5⟩ := h.ot k hk
 exact ⟨a1, a2, a3, a4, (hg.block k (by omega) (fun e => by have := hr k e.symm; omega)).trans a5⟩
theorem OfL.add {v' : Value} {rs' : List Rd} (h : OfL w O Wr z hs vq done rs v9 W) (h1 : Bx W' (w.heap.size + 3) [v']) (h2 : Owns W' (w.heap.size + 5) 130 5 Rd.enc v' rs') (h3 : v'.ownBlock = v9.ownBlock ∨ v'.ownBlock = some W.heap.size)
 (hsz : W.heap.size ≤ W'.heap.size) (ho : W'.os = W.os ∧ W'.tape = W.tape ∧ W'.output = W.output) (hk : ∀ k, k < W.heap.size → k ≠ w.heap.size + 3 → v9.ownBlock ≠ some k → W'.heap[k]? = W.heap[k]?) : OfL w O Wr z hs vq done rs' v' W' := by
 have hzB := h.zB
 have hzW := h.zW
 have hne : ∀ k, k < W.heap.size → v9.ownBlock ≠ some k → v'.ownBlock ≠ some k := fun k hl hn e => by
  rcases h3 with h3 | h3
  ·exact hn (h3 ▸ e)
  ·rw [h3] at e; cases e; omega
 have hrd := h.rd.base_le
 refine ⟨h1, h2, h.rq.same (fun k e => hk k (by have := h.aq k e; omega) (by have := h.rq.base_le k e; omega) (h.aq k e).2), fun s ns m => ((h.dn s ns m).keep ⟨hsz, fun b hb hl => hk b hl (by have := hb.2.1; omega) hb.2.2.1⟩).mono (fun b hb => ⟨hb.1, hb.2.1, hne b (by have := hb.1; omega) hb.2.2.1, hb.2.2.2⟩), fun k e => ⟨(h.aq k e).1, hne k (by have := h.aq k e; omega) (h.aq k e).2⟩,
  ⟨ho.1.trans h.bw.os, ho.2.1.trans h.bw.tape, ho.2.2.trans h.bw.output, Nat.le_trans h.bw.size hsz, fun k hl => (hk k (Nat.lt_of_lt_of_le hl h.bw.size) (by omega) (fun e => by have := hrd k e; omega)).trans (h.bw.block k hl)⟩, Nat.le_trans hzW hsz, hzB, fun k hO => ?_⟩
 obtain ⟨a1, a2, a3, a4, a5⟩ := h.ot k hO
 exact ⟨a1, a2, hne k (by omega) a3, a4, (hk k (by omega) a2 a3).trans a5⟩
theorem OfL.store {g i : Nat} {hs' : List RqH} {s : Sl} {ns : List Int} (h : OfL w O Wr z hs vq done rs v9 W) (hg : vq.ownBlock = some g) (u : Value) (hq : Owns (W.setCell ⟨g, i, none⟩ u) (w.heap.size + 5) 67 6 RqH.enc vq hs') (hn : SlR W (fun b => b < z ∧ w.heap.size + 5 ≤ b ∧ v9.ownBlock ≠ some b ∧ vq.ownBlock ≠ some b) 1 intE s ns) :
 OfL w O Wr z hs' vq (done ++ [(s, ns)]) rs v9 (W.setCell ⟨g, i, none⟩ u) := by
 have hgb := h.rq.base_le g hg
 have hga := h.aq g hg
 have hne : ∀ k, k ≠ g → (W.setCell ⟨g, i, none⟩ u).heap[k]? = W.heap[k]? := fun k hk => Below.heap_setCell _ _ _ _ (by first | exact hk | exact hk.symm)
 have hsz : W.heap.size ≤ (W.setCell ⟨g, i, none⟩ u).heap.size := by simp [World.setCell]
 refine ⟨h.br.farC (by show w.heap.size + 3 ≠ g; omega) _, h.rd.same (fun k e => hne k (fun e2 => hga.2 (e2 ▸ e))), hq, fun s2 ns2 m => ?_, h.aq, h.bw.setCell (by show w.heap.size ≤ g; omega) _, Nat.le_trans h.zW hsz, h.zB, fun k hk => ?_⟩
 ·have kp : ∀ {s3 : Sl} {ns3 : List Int}, SlR W (fun b => b < z ∧ w.heap.size + 5 ≤ b ∧ v9.ownBlock ≠ some b ∧ vq.ownBlock ≠ some b) 1 intE s3 ns3 → SlR (W.setCell ⟨g, i, none⟩ u) (fun b => b < z ∧ w.heap.size + 5 ≤ b ∧ v9.ownBlock ≠ some b ∧ vq.ownBlock ≠ some b) 1 intE s3 ns3 := fun h3 => h3.keep ⟨hsz, fun b hb _ => hne b (fun e => hb.2.2.2 (e ▸ hg))⟩
  rcases List.mem_append.1 m with m | m
  ·exact kp (h.dn s2 ns2 m)
  ·simp only [List.mem_singleton, Prod.mk.injEq] at m
   obtain ⟨rfl, rfl⟩ := m
   exact kp hn
 ·obtain ⟨a1, a2, a3, a4, a5⟩ := h.ot k hk
  exact ⟨a1, a2, a3, a4, (hne k (fun e => a4 (e ▸ hg))).trans a5⟩
end
def hsOf (hs : List RqH) (done : List (Sl × List Int)) : List RqH := hs.mapIdx (fun i h => match done[i]? with | some p => { h with fr := p.1 } | none => h)
theorem hsOf_nil (hs : List RqH) : hsOf hs [] = hs := by
 unfold hsOf
 apply List.ext_getElem?
 intro i
 rw [List.getElem?_mapIdx]
 cases hs[i]? <;> simp
theorem hsOf_len (hs : List RqH) (done : List (Sl × List Int)) : (hsOf hs done).length = hs.length := by simp [hsOf]
theorem hsOf_at (hs : List RqH) (done : List (Sl × List Int)) (k : Nat) (hk : done.length = k) (x : RqH) (h : hs[k]? = some x) : (hsOf hs done)[k]? = some x := by
 unfold hsOf
 rw [List.getElem?_mapIdx, h, List.getElem?_eq_none (by omega)]
 rfl
theorem hsOf_set (hs : List RqH) (done : List (Sl × List Int)) (k : Nat) (hk : done.length = k) (x : RqH) (h : hs[k]? = some x) (s : Sl) (ns : List Int) : hsOf hs (done ++ [(s, ns)]) = (hsOf hs done).set k { x with fr := s } := by
 apply List.ext_getElem?
 intro i
 have hkl := (List.getElem?_eq_some_iff.1 h).1
 rw [List.getElem?_set, hsOf_len]
 unfold hsOf
 rw [List.getElem?_mapIdx, List.getElem?_mapIdx]
 by_cases e : k = i
 ·subst e
  rw [if_pos rfl, if_pos hkl, h, ← hk]
  simp
 ·rw [if_neg e]
  by_cases e2 : i < done.length
  ·rw [List.getElem?_append_left e2]
  ·rw [List.getElem?_append_right (by omega), List.getElem?_eq_none (l := done) (by omega), List.getElem?_eq_none (by simp; omega)]
end Go.Proofs.YtalmbigebjbaoaaGreatDoor
namespace Go.Proofs.YtalmbigebjbaoaaGreatDoor
open Go.RowKit Go.Shelf
set_option linter.unusedSimpArgs false
set_option linter.unusedVariables false
attribute [local go_sem] Oper.semAt_some
def newFr (fs : List Fc) (term known : Int) (fr : List Int) : List Int := cmpL (sortI (fr.flatMap (fun c => eqF fs c term known)))
def wideP (fs : List Fc) (term known : Int) (p : Pg) : Pg := { p with reqs := p.reqs.map (fun q => { q with fr := newFr fs term known q.fr }) }
def OfOut (d : Wd) (student num term known : Int) (w w' : World) (e : Ending) : Prop :=
 (∃ (v : Value) (code : Int), e = .returned (.tuple #[.agg #[.slice none 0 0, .int .i64 0, .slice none 0 0], .bool false, v, .int .i64 code]) ∧ (progF d num term known = none ∨ code ≠ 0)) ∨
 (∃ x, progF d num term known = some x ∧ ofB student term = true ∧ (cntE d student term known (ofR d student term known)).2 = 0 ∧ (earnedA (cntE d student term known (ofR d student term known)).1).2 = 0 ∧ (meanA (cntE d student term known (ofR d student term known)).1).2 = 0 ∧ (cmpP (meanA (cntE d student term known (ofR d student term known)).1).1 x.p.mean).2 = 0 ∧
   ∃ (us : List Us) (M : Int) (cs : List Bool) (D C : Option Addr) (dd cc : Nat) (v : Value), e = .returned (.tuple #[auV ⟨D, us.length, dd⟩ M ⟨C, cs.length, cc⟩, .bool (decide (M = 0) && (decide (x.p.earn ≤ (earnedA (cntE d student term known (ofR d student term known)).1).1) && decide (0 ≤ (cmpP (meanA (cntE d student term known (ofR d student term known)).1).1 x.p.mean).1))), v, .int .i64 0]) ∧
     UOk (wideP d.fs term known x.p) (cntE d student term known (ofR d student term known)).1 us ∧ auditE (wideP d.fs term known x.p) (cntE d student term known (ofR d student term known)).1 us M cs = 0 ∧ M = totR x.p.reqs - usT us ∧ us.length ≤ 65536 ∧ (cntE d student term known (ofR d student term known)).1.length ≤ 5000 ∧
     SlR w' (fun b => w.heap.size ≤ b) 3 Us.enc ⟨D, us.length, dd⟩ us ∧ SlR w' (fun _ => True) 1 boolE ⟨C, cs.length, cc⟩ cs)
def sixW (W : World) (bA bC bR bE : Nat) (a0 a1 a2 c r e : Value) : World := ((((((W.setCell ⟨bA, 0, none⟩ a0).setCell ⟨bA, 1, none⟩ a1).setCell ⟨bA, 2, none⟩ a2).setCell ⟨bC, 0, none⟩ c).setCell ⟨bR, 0, none⟩ r).setCell ⟨bE, 0, none⟩ e).drew
theorem Bx.drew_ {W : World} {b : Nat} {cs : List Value} (h : Bx W b cs) : Bx W.drew b cs := h
set_option maxHeartbeats 4000000 in
theorem six_set {W : World} {bA bC bR bE : Nat} {x0 x1 x2 y z u : Value} (hA : Bx W bA [x0, x1, x2]) (hC : Bx W bC [y]) (hR : Bx W bR [z]) (hE : Bx W bE [u]) (h1 : bA < bC) (h2 : bC < bR) (h3 : bR < bE) (a0 a1 a2 c r e : Value) :
 Bx (sixW W bA bC bR bE a0 a1 a2 c r e) bA [a0, a1, a2] ∧ Bx (sixW W bA bC bR bE a0 a1 a2 c r e) bC [c] ∧ Bx (sixW W bA bC bR bE a0 a1 a2 c r e) bR [r] ∧ Bx (sixW W bA bC bR bE a0 a1 a2 c r e) bE [e] ∧ (∀ B, B ≤ bA → Below B W (sixW W bA bC bR bE a0 a1 a2 c r e)) ∧ (sixW W bA bC bR bE a0 a1 a2 c r e).heap.size = W.heap.size ∧
  ∀ k, k ≠ bA → k ≠ bC → k ≠ bR → k ≠ bE → (sixW W bA bC bR bE a0 a1 a2 c r e).heap[k]? = W.heap[k]? := by
 unfold sixW
 refine ⟨Bx.drew_ ?_, Bx.drew_ ?_, Bx.drew_ ?_, Bx.drew_ ?_, fun B hB => ?_, ?_, fun k k1 k2 k3 k4 => ?_⟩
 ·have e1 : Bx (W.setCell ⟨bA, 0, none⟩ a0) bA [a0, x1, x2] := hA.setAt (i := 0) (by simp) a0
  have e2 : Bx ((W.setCell ⟨bA, 0, none⟩ a0).setCell ⟨bA, 1, none⟩ a1) bA [a0, a1, x2] := e1.setAt (i := 1) (by simp) a1
  have e3 : Bx (((W.setCell ⟨bA, 0, none⟩ a0).setCell ⟨bA, 1, none⟩ a1).setCell ⟨bA, 2, none⟩ a2) bA [a0, a1, a2] := e2.setAt (i := 2) (by simp) a2
  have e4 := e3.farC (a := ⟨bC, 0, none⟩) (by show bA ≠ bC; omega) c
  have e5 := e4.farC (a := ⟨bR, 0, none⟩) (by show bA ≠ bR; omega) r
  exact e5.farC (a := ⟨bE, 0, none⟩) (by show bA ≠ bE; omega) e
 ·have e1 := hC.farC (a := ⟨bA, 0, none⟩) (by show bC ≠ bA; omega) a0
  have e2 := e1.farC (a := ⟨bA, 1, none⟩) (by show bC ≠ bA; omega) a1
  have e3 := e2.farC (a := ⟨bA, 2, none⟩) (by show bC ≠ bA; omega) a2
  have e4 := e3.set1 c
  have e5 := e4.farC (a := ⟨bR, 0, none⟩) (by show bC ≠ bR; omega) r
  exact e5.farC (a := ⟨bE, 0, none⟩) (by show bC ≠ bE; omega) e
 ·have e1 := hR.farC (a := ⟨bA, 0, none⟩) (by show bR ≠ bA; omega) a0
  have e2 := e1.farC (a := ⟨bA, 1, none⟩) (by show bR ≠ bA; omega) a1
  have e3 := e2.farC (a := ⟨bA, 2, none⟩) (by show bR ≠ bA; omega) a2
  have e4 := e3.farC (a := ⟨bC, 0, none⟩) (by show bR ≠ bC; omega) c
  have e5 := e4.set1 r
  exact e5.farC (a := ⟨bE, 0, none⟩) (by show bR ≠ bE; omega) e
 ·have e1 := hE.farC (a := ⟨bA, 0, none⟩) (by show bE ≠ bA; omega) a0
  have e2 := e1.farC (a := ⟨bA, 1, none⟩) (by show bE ≠ bA; omega) a1
  have e3 := e2.farC (a := ⟨bA, 2, none⟩) (by show bE ≠ bA; omega) a2
  have e4 := e3.farC (a := ⟨bC, 0, none⟩) (by show bE ≠ bC; omega) c
  have e5 := e4.farC (a := ⟨bR, 0, none⟩) (by show bE ≠ bR; omega) r
  exact e5.set1 e
 ·have e1 := (Below.refl B W).setCell (p := ⟨bA, 0, none⟩) (by show B ≤ bA; omega) a0
  have e2 := e1.setCell (p := ⟨bA, 1, none⟩) (by show B ≤ bA; omega) a1
  have e3 := e2.setCell (p := ⟨bA, 2, none⟩) (by show B ≤ bA; omega) a2
  have e4 := e3.setCell (p := ⟨bC, 0, none⟩) (by show B ≤ bC; omega) c
  have e5 := e4.setCell (p := ⟨bR, 0, none⟩) (by show B ≤ bR; omega) r
  exact (e5.setCell (p := ⟨bE, 0, none⟩) (by show B ≤ bE; omega) e).drew
 ·simp [World.setCell]
 ·have st : ∀ (X : World) (b o : Nat) (v : Value), k ≠ b → (X.setCell ⟨b, o, none⟩ v).heap[k]? = X.heap[k]? := fun X b o v hk => Below.heap_setCell _ _ _ _ (by first | exact hk | exact hk.symm)
  show (World.setCell _ ⟨bE, 0, none⟩ e).heap[k]? = _
  rw [st _ _ _ _ k4, st _ _ _ _ k3, st _ _ _ _ k2, st _ _ _ _ k1, st _ _ _ _ k1, st _ _ _ _ k1]
end Go.Proofs.YtalmbigebjbaoaaGreatDoor
