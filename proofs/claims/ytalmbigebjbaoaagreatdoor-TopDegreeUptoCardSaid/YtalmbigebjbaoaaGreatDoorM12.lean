/- TopDegree, what its proof leans on: the texts ProM, ProN. -/
import Derived.Test.YtalmbigebjbaoaaGreatDoorM11
import Derived.Deep.DeepCutAuto
import Derived.RegionTactic
import Derived.BigRegion
import Derived.IntWalk
namespace Go.Proofs.YtalmbigebjbaoaaGreatDoor
open Go.RowKit Go.Shelf
set_option linter.unusedSimpArgs false
set_option linter.unusedVariables false
attribute [local go_sem] Oper.semAt_some
theorem SlR.small {α : Type} {w : World} {P : Nat → Prop} {sz : Nat} {en : α → List Value} {s : Sl} {xs : List α} (h : SlR w P sz en s xs) {Q : Nat → Prop} (hq : ∀ b, b < w.heap.size → Q b) : SlR w Q sz en s xs :=
 ⟨h.1, h.2.1, h.2.2.1, h.2.2.2.1, h.2.2.2.2.1, fun hn a e => by
   obtain ⟨b, off, e2, hlt, _⟩ := h.2.2.2.2.1 hn
   rw [e2] at e
   injection e with e
   subst e
   exact hq b hlt⟩
theorem Rqs.small {w : World} {P : Nat → Prop} {s : Sl} {qs : List Rq} (h : Rqs w P s qs) {Q : Nat → Prop} (hq : ∀ b, b < w.heap.size → Q b) : Rqs w Q s qs := by
 obtain ⟨hs, h1, h2, h3⟩ := h
 exact ⟨hs, h1.small hq, h2, fun i a q e1 e2 => by obtain ⟨x, y, z, t⟩ := h3 i a q e1 e2; exact ⟨x, y, z, t.small hq⟩⟩
theorem Tryz.infoBool : (Tryz.prog.info? 4).map (fun i => (i.zero, i.size, i.bytes)) = some (some (.bool false), 1, 1) := by kernel_rfl
theorem run_slice_both {P : Program} {t e : TypeId} {i : TypeInfo} (ht : P.underlying t = some (.slice e)) (hi : P.info? e = some i) (A : Option Addr) (n c : Nat) (k k2 : IntKind) (lo hh : Int) (h0 : 0 ≤ lo) (h1 : lo ≤ hh) (h2 : hh ≤ c) (W : World) :
 (Instr.slice t (.slice A n c) (some (.int k lo)) (some (.int k2 hh)) none).run P W = .ok (.slice (if c = lo.toNat then A else A.map (·.add (lo.toNat * i.size))) (hh.toNat - lo.toNat) (c - lo.toNat)) W := by
 have hb1 := fun code => run_sliceBound (P := P) (w := W) k2 hh c code (by omega) h2
 have hb2 := fun code => run_sliceBound (P := P) (w := W) k lo hh.toNat code h0 (by omega)
 simp [Instr.slice, run_underlying ht, Instr.sliceBounds, hb1, hb2, sizeOf, typeInfo, hi]
def accP (n0 n1 n2 : Nat) : Nat → Prop := fun b => b < n0 ∨ (n1 ≤ b ∧ b < n2)
set_option maxRecDepth 100000 in
set_option maxHeartbeats 8000000 in
theorem across_any {P : Nat → Prop} (n0 : Nat) (p : Pg) (s : Sl) (l : List At) (B : Option Addr) (b : Nat) (cs : List Bool) (bc oc cc : Nat) (w : World) (hn0 : n0 ≤ w.heap.size) (hr : Rqs w (fun b => b < n0) s p.reqs) (hla : SlR w (fun b => b < n0) 5 At.enc ⟨B, l.length, b⟩ l)
 (hc : ∀ j, j < cs.length → w.cell? ⟨bc, oc + j, none⟩ = some (.bool (cs.getD j false))) (hbc : bc < n0) (hcl : cs.length = 2 + l.length + p.reqs.length) (hcc : cs.length ≤ cc) (hll : l.length ≤ 5000) (hlr : p.reqs.length ≤ 64) :
 Calls Tryz.prog 75 #[pgV p s, .slice B l.length b, .slice (some ⟨bc, oc, none⟩) cs.length cc] w fun e w' =>
  (∃ bl ba bp br : Nat, e = .returned (.func (.func 119) #[] #[.pointer (some ⟨bl, 0, none⟩), .pointer (some ⟨ba, 0, none⟩), .pointer (some ⟨bp, 0, none⟩), .pointer (some ⟨br, 0, none⟩)]) ∧ AccI w' (accP n0 w.heap.size w'.heap.size) p l cs s B b bc oc cc bl ba bp br) ∧ Below w.heap.size w w' := by
 obtain ⟨i0, hinf, hz0, hz1, hz2⟩ := info_parts Tryz.infoBool
 have hs1 := fun W => run_slice_both (P := Tryz.prog) Tryz.underlying33 hinf (some ⟨bc, oc, none⟩) cs.length cc .i64 .i64 1 (1 + (l.length : Int)) (by omega) (by omega) (by omega) W
 have hs2 := fun W => run_slice_from (P := Tryz.prog) Tryz.underlying33 hinf (some ⟨bc, oc, none⟩) cs.length cc .i64 (1 + (l.length : Int)) (by omega) (by omega) W
 rw [hz1] at hs1 hs2
 have e1 : (1 + (l.length : Int)).toNat = 1 + l.length := by omega
 simp only [e1, Nat.mul_one, Int.toNat_one, if_neg (show ¬ cc = 1 by omega), if_neg (show ¬ cc = 1 + l.length by omega), Option.map_some, Go.WideShapes.add_plain, Nat.add_sub_cancel_left] at hs1 hs2
 have hn := hr.len
 have HR := Lib.hid hr
 have HL := Lib.hid hla
 have HC := Lib.hid hc
 obtain ⟨A, n, c⟩ := s
 simp only at hn
 subst hn
 unfold pgV
 simp only
 have HCL := Lib.hid hcl
 clear hr hla hc hinf hz0 hz1 hz2 e1 hcl hcc
 obtain ⟨m2, hm2⟩ : ∃ m, m = cs.length - (1 + l.length) := ⟨_, rfl⟩
 rw [← hm2] at hs2
 have HM2 := Lib.hid hm2
 clear hm2
 go_enter Tryz.func75, Tryz.ntmps75
 go_wp2_with fail
 obtain ⟨W1, hW1⟩ : ∃ X, X = (w.alloc (.cells #[.string p.nm, .int .i64 p.number, .int .i64 p.uses, .int .i64 p.earn, .int .i64 p.mean.num, .int .i64 p.mean.den, .slice A p.reqs.length c] 44)).alloc (.cells #[.slice B l.length b] 47) := ⟨_, rfl⟩
 have hbp : Bx W1 w.heap.size (pgC p ⟨A, p.reqs.length, c⟩) := by rw [hW1]; exact (Bx.new w _ _).alloc _
 have hbl : Bx W1 (w.heap.size + 1) [.slice B l.length b] := by rw [hW1]; exact Bx.at_ _ _ _ _ (by simp)
 have hb1 : Below w.heap.size w W1 := by rw [hW1]; exact ((Below.refl _ _).alloc (Nat.le_refl _) _).alloc (by simp) _
 have hz : W1.heap.size = w.heap.size + 2 := by rw [hW1]; simp
 obtain ⟨bL, hbL⟩ : ∃ q, q = w.heap.size + 1 := ⟨_, rfl⟩
 rw [← hW1, ← hbL]
 rw [← hbL] at hbl
 have l0 := hbl.1 0 _ rfl
 have lz := hbl.2.2
 have HBP := Lib.hid hbp
 have HBL := Lib.hid hbl
 have HB1 := Lib.hid hb1
 clear hW1 hbp hbl hb1
 have fin : ∀ (W2 : World) (ba br : Nat), Below W1.heap.size W1 W2 → Bx W2 ba [.slice (some ⟨bc, oc + 1, none⟩) l.length (cc - 1)] → Bx W2 br [.slice (some ⟨bc, oc + (1 + l.length), none⟩) m2 (cc - (1 + l.length))] → w.heap.size ≤ ba → w.heap.size ≤ br →
  AccI W2 (accP n0 w.heap.size W2.heap.size) p l cs ⟨A, p.reqs.length, c⟩ B b bc oc cc bL ba w.heap.size br ∧ Below w.heap.size w W2 := fun W2 ba br h1 h2 h3 h4 h5 => by
  have hbw : Below w.heap.size w W2 := HB1.out.trans (h1.mono (by omega))
  refine ⟨⟨HBL.out.step h1, h2, HBP.out.step h1, by rw [← HM2.out]; exact h3, (HR.out.step hbw).mono (fun b hb => .inl hb), (HL.out.step hbw).mono (fun b hb => .inl hb), fun j hj => ?_, by have := hbw.size; omega, .inl hbc, .inr ⟨by omega, by have := h1.size; omega⟩, .inr ⟨h4, h2.2.2⟩, .inr ⟨Nat.le_refl _, by have := h1.size; omega⟩, .inr ⟨h5, h3.2.2⟩⟩, hbw⟩
  exact (hbw.cell (p := ⟨bc, oc + j, none⟩) (by show bc < w.heap.size; omega)).trans (HC.out j hj)
 have FIN := Lib.hid fin
 have HZ := Lib.hid hz
 clear fin hz hbL
 go_region
 ·go_wp2_with fail
  go_ret
  obtain ⟨t1, t2, t3⟩ := two_bx W1 [.slice (some ⟨bc, oc + 1, none⟩) l.length (cc - 1)] [.slice (some ⟨bc, oc + (1 + l.length), none⟩) m2 (cc - (1 + l.length))] 33 33
  obtain ⟨k1, k2⟩ := FIN.out _ _ _ t3 t1 t2 (by have := HZ.out; omega) (by have := HZ.out; omega)
  exact ⟨⟨_, _, _, _, rfl, k1⟩, k2⟩
 ·go_wp2_with fail
  go_ret
  obtain ⟨t1, t2, t3⟩ := two_bx W1 [.slice (some ⟨bc, oc + (1 + l.length), none⟩) m2 (cc - (1 + l.length))] [.slice (some ⟨bc, oc + 1, none⟩) l.length (cc - 1)] 33 33
  obtain ⟨k1, k2⟩ := FIN.out _ _ _ t3 t2 t1 (by have := HZ.out; omega) (by have := HZ.out; omega)
  exact ⟨⟨_, _, _, _, rfl, k1⟩, k2⟩
theorem flat_len {f : Nat → List Int} {c : Nat} (h : ∀ i, (f i).length ≤ c) : ∀ n, ((List.range n).flatMap f).length ≤ n * c
 | 0 => by simp
 | n + 1 => by rw [flat_range, List.length_append, Nat.add_mul]; have := flat_len h n; have := h n; omega
theorem flat_mem {f : Nat → List Int} {n : Nat} {Q : Int → Prop} (h : ∀ i, i < n → ∀ x ∈ f i, Q x) : ∀ x ∈ (List.range n).flatMap f, Q x := by
 intro x hx
 obtain ⟨i, hi, hxi⟩ := List.mem_flatMap.1 hx
 exact h i (List.mem_range.1 hi) x hxi
theorem acc_len (p : Pg) (l : List At) (cs : List Bool) (hl : l.length ≤ 5000) (hr : p.reqs.length ≤ 64) : (accL p l cs).length ≤ 325064 := by
 unfold accL
 rw [List.length_append]
 have h1 := flat_len (f := rowL p l cs) (c := 65) (fun i => by
  unfold rowL
  split
  ·have := flat_len (f := cellL p l cs i) (c := 1) (fun k => by unfold cellL; split <;> simp) p.reqs.length
   omega
  ·simp) l.length
 have h2 := flat_len (f := colL p l cs) (c := 1) (fun k => by unfold colL; split <;> simp) p.reqs.length
 omega
theorem acc_mem {p : Pg} {l : List At} (cs : List Bool) (hg : goodP p = true) (hga : ∀ a ∈ l, a.good = true) : ∀ x ∈ accL p l cs, 0 ≤ x ∧ x ≤ 10000 := by
 obtain ⟨hcr, hlen, hu1, hu4⟩ := good_credits hg
 have ha : ∀ i, i < l.length → 0 ≤ (l.getD i default).credits ∧ (l.getD i default).credits ≤ 60 := fun i hi => by
  have h := good_at (hga _ (List.getElem_mem hi))
  rw [List.getD_eq_getElem?_getD, List.getElem?_eq_getElem hi]
  exact ⟨h.2.2.1, h.2.2.2.1⟩
 intro x hx
 rcases List.mem_append.1 hx with h | h
 ·refine flat_mem (Q := fun x => 0 ≤ x ∧ x ≤ 10000) (fun i hi x hx => ?_) x h
  unfold rowL at hx
  split at hx
  ·refine flat_mem (Q := fun x => 0 ≤ x ∧ x ≤ 10000) (fun k hk x hx => ?_) x hx
   unfold cellL at hx
   split at hx
   ·simp only [List.mem_singleton] at hx; subst hx; have := ha i hi; omega
   ·simp at hx
  ·simp only [List.mem_singleton] at hx; subst hx
   obtain ⟨h1, h2⟩ := ha i hi
   have := mul_bd h1 h2 hu1 hu4
   omega
 ·refine flat_mem (Q := fun x => 0 ≤ x ∧ x ≤ 10000) (fun k hk x hx => ?_) x h
  unfold colL at hx
  split at hx
  ·simp at hx; subst hx
   have := hcr _ (List.getElem_mem hk)
   simp [List.getElem?_eq_getElem hk]
   omega
  ·simp at hx
def okCut (p : Pg) (l : List At) (cs : List Bool) : Bool := decide (cs.length = 2 + l.length + p.reqs.length) && (cs.getD 0 false && !cs.getD (1 + l.length + p.reqs.length) false)
def boundP (p : Pg) (l : List At) (cs : List Bool) : Int × Int := if askedE p l = 0 then (if okCut p l cs then (max 0 (totR p.reqs - sumL (accL p l cs)), 0) else (0, 200)) else (0, askedE p l)
def BndI (w : World) (M : Nat) (T : Int) (pre : List Int) (W : World) : Prop :=
 W.cell? ⟨M, 0, none⟩ = some (.int .i64 (T - sumL pre)) ∧ W.frozen? ⟨M, 0, none⟩ = false ∧ Below w.heap.size w W
set_option maxRecDepth 100000 in
set_option maxHeartbeats 8000000 in
theorem Bound_any {P : Nat → Prop} (p : Pg) (s : Sl) (l : List At) (B : Option Addr) (b : Nat) (cs : List Bool) (C : Option Addr) (cc : Nat) (w : World) (hr : Rqs w P s p.reqs) (hi : p.mean.i64) (hla : SlR w P 5 At.enc ⟨B, l.length, b⟩ l) (hcs : SlR w P 1 boolE ⟨C, cs.length, cc⟩ cs) (hll : l.length ≤ 5000) :
 Calls Tryz.prog 41 #[pgV p s, .slice B l.length b, .slice C cs.length cc] w fun e w' => e = .returned (.tuple #[.int .i64 (boundP p l cs).1, .int .i64 (boundP p l cs).2]) ∧ Below w.heap.size w w' := by
 have hcsl : cs.length ≤ 9223372036854775807 := maxLen_le (Nat.le_trans hcs.2.1 hcs.2.2.1)
 have hccl : cs.length ≤ cc := hcs.2.1
 have hn := hr.len
 have HR := Lib.hid hr
 have HLA := Lib.hid hla
 have HCS := Lib.hid hcs
 have hC := Lib.hid (fun W (h : Below w.heap.size w W) => asked_any p s l B b W (hr.step h) hi (hla.reads.below h |>.more h.size) (by omega))
 obtain ⟨A, n, c⟩ := s
 simp only at hn
 subst hn
 clear hr hla hcs
 obtain ⟨E1, E2, hE⟩ : ∃ a b, boundP p l cs = (a, b) := ⟨_, _, rfl⟩
 rw [hE]
 have HE := Lib.hid hE
 clear hE
 unfold pgV at hC ⊢
 simp only at hC ⊢
 by_cases h0 : askedE p l = 0
 rotate_left
 ·have hE : boundP p l cs = (0, askedE p l) := by unfold boundP; rw [if_neg h0]
  rw [HE.out] at hE
  obtain ⟨rfl, rfl⟩ := Prod.mk.inj hE
  clear hE
  obtain ⟨E, hE⟩ : ∃ a, askedE p l = a := ⟨_, rfl⟩
  rw [hE] at hC h0 ⊢
  have e1 : (E == 0) = false := by simpa using h0
  have e2 : (E != 0) = true := by simpa using h0
  clear hE h0 HE
  go_enter Tryz.func41, Tryz.ntmps41
  go_wp2_with fail
  refine (hC.out _ (((Below.refl _ _).alloc (Nat.le_refl _) _).alloc (by simp) _)).mono ?_
  rintro e w2 ⟨rfl, hb2⟩
  have hbm := (Bx.at_ (w.alloc (.cells #[.string p.nm, .int .i64 p.number, .int .i64 p.uses, .int .i64 p.earn, .int .i64 p.mean.num, .int .i64 p.mean.den, .slice A p.reqs.length c] 44)) [.int .i64 0] 3 (w.heap.size + 1) (by simp)).step hb2
  have hbp := ((Bx.new w (pgC p ⟨A, p.reqs.length, c⟩) 44).alloc (.cells #[.int .i64 0] 3)).step hb2
  have HBE : Hid (Below w.heap.size w w2) := Lib.hid ((((Below.refl _ _).alloc (Nat.le_refl _) _).alloc (by simp) _).trans (hb2.mono (by simp; omega)))
  have m0 := hbm.1 0 _ rfl
  have mf := hbm.2.1 0
  have mz := hbm.2.2
  clear hb2 hbm hbp
  go_wp2_with fail
  obtain ⟨W5, hW5⟩ : ∃ W5, W5 = w2.setCell ⟨w.heap.size + 1, 0, none⟩ (.int .i64 0) := ⟨_, rfl⟩
  have q1 : W5.cell? ⟨w.heap.size + 1, 0, none⟩ = some (.int .i64 0) := by rw [hW5]; exact set_at _ _ _ _ m0
  have hB5 : Below w.heap.size w W5 := by rw [hW5]; exact HBE.out.setCell (by simp) _
  rw [← hW5]
  exact bodyPost_ret (v := .tuple #[.int .i64 0, .int .i64 E]) (by simp [results, Tryz.results41, go_sem, q1]) rfl ⟨rfl, hB5⟩
 rw [h0] at hC
 obtain ⟨hg, hga⟩ := asked_zero h0
 have HG := Lib.hid hg
 have HGA := Lib.hid hga
 obtain ⟨hcr, hlen, hu1, hu4⟩ := good_credits hg
 have HEE : Hid ((E1, E2) = if okCut p l cs then (max 0 (totR p.reqs - sumL (accL p l cs)), 0) else (0, 200)) := Lib.hid (by rw [← HE.out]; unfold boundP; rw [if_pos h0])
 clear h0 HE hg hga hcr
 cases c1 : ((cs.length : Int) != 1 + (l.length : Int) + (p.reqs.length : Int) + 1)
 rotate_left
 ·obtain ⟨rfl, rfl⟩ := Prod.mk.inj (show (E1, E2) = (0, 200) by rw [HEE.out, if_neg (by simp [okCut]; simp at c1; omega)])
  clear HEE
  go_enter Tryz.func41, Tryz.ntmps41
  go_wp2_with fail
  refine (hC.out _ (((Below.refl _ _).alloc (Nat.le_refl _) _).alloc (by simp) _)).mono ?_
  rintro e w2 ⟨rfl, hb2⟩
  have hbm := (Bx.at_ (w.alloc (.cells #[.string p.nm, .int .i64 p.number, .int .i64 p.uses, .int .i64 p.earn, .int .i64 p.mean.num, .int .i64 p.mean.den, .slice A p.reqs.length c] 44)) [.int .i64 0] 3 (w.heap.size + 1) (by simp)).step hb2
  have hbp := ((Bx.new w (pgC p ⟨A, p.reqs.length, c⟩) 44).alloc (.cells #[.int .i64 0] 3)).step hb2
  have HBE : Hid (Below w.heap.size w w2) := Lib.hid ((((Below.refl _ _).alloc (Nat.le_refl _) _).alloc (by simp) _).trans (hb2.mono (by simp; omega)))
  have m0 := hbm.1 0 _ rfl
  have mf := hbm.2.1 0
  have mz := hbm.2.2
  have p6 := hbp.1 6 _ rfl
  have pz := hbp.2.2
  clear hb2 hbm hbp
  go_wp2_with fail
  obtain ⟨W5, hW5⟩ : ∃ W5, W5 = w2.setCell ⟨w.heap.size + 1, 0, none⟩ (.int .i64 0) := ⟨_, rfl⟩
  have q1 : W5.cell? ⟨w.heap.size + 1, 0, none⟩ = some (.int .i64 0) := by rw [hW5]; exact set_at _ _ _ _ m0
  have hB5 : Below w.heap.size w W5 := by rw [hW5]; exact HBE.out.setCell (by simp) _
  rw [← hW5]
  exact bodyPost_ret (v := .tuple #[.int .i64 0, .int .i64 200]) (by simp [results, Tryz.results41, go_sem, q1]) rfl ⟨rfl, hB5⟩
 have hcl : cs.length = 2 + l.length + p.reqs.length := by simp at c1; omega
 obtain ⟨bc, oc, hCe, hbc, hcell⟩ := HCS.out.reads (by omega)
 subst hCe
 have hce : ∀ j, j < cs.length → w.cell? ⟨bc, oc + j, none⟩ = some (.bool (cs.getD j false)) := fun j hj => by
  have := hcell j cs[j] 0 _ (List.getElem?_eq_getElem hj) rfl
  simp only [Nat.mul_one, Nat.add_zero] at this
  rw [this, List.getD_eq_getElem?_getD, List.getElem?_eq_getElem hj]
  rfl
 have d0 := hce 0 (by omega)
 have d1 := hce (1 + l.length + p.reqs.length) (by omega)
 simp only [Nat.add_zero] at d0
 obtain ⟨b0, hb0⟩ : ∃ x, x = cs.getD 0 false := ⟨_, rfl⟩
 obtain ⟨b1, hb1⟩ : ∃ x, x = cs.getD (1 + l.length + p.reqs.length) false := ⟨_, rfl⟩
 have hok : okCut p l cs = (b0 && !b1) := by unfold okCut; rw [← hb0, ← hb1, decide_eq_true hcl]; rfl
 rw [← hb0] at d0
 rw [← hb1] at d1
 rw [hok] at HEE
 have HCE := Lib.hid hce
 have HCL := Lib.hid hcl
 have hti : (1 + (l.length : Int) + (p.reqs.length : Int)).toNat = 1 + l.length + p.reqs.length := by omega
 have hti0 : (0 : Int) ≤ 1 + (l.length : Int) + (p.reqs.length : Int) := by omega
 have hti1 : 1 + (l.length : Int) + (p.reqs.length : Int) < (cs.length : Int) := by omega
 have hcpos : (0 : Int) < (cs.length : Int) := by omega
 have hcposn : 0 < cs.length := by omega
 clear hb0 hb1 hok hce hcell hcl
 cases b0
 ·obtain ⟨rfl, rfl⟩ := Prod.mk.inj (show (E1, E2) = (0, 200) by rw [HEE.out, if_neg (by simp)])
  clear HEE
  go_enter Tryz.func41, Tryz.ntmps41
  go_wp2_with fail
  refine (hC.out _ (((Below.refl _ _).alloc (Nat.le_refl _) _).alloc (by simp) _)).mono ?_
  rintro e w2 ⟨rfl, hb2⟩
  have hbm := (Bx.at_ (w.alloc (.cells #[.string p.nm, .int .i64 p.number, .int .i64 p.uses, .int .i64 p.earn, .int .i64 p.mean.num, .int .i64 p.mean.den, .slice A p.reqs.length c] 44)) [.int .i64 0] 3 (w.heap.size + 1) (by simp)).step hb2
  have hbp := ((Bx.new w (pgC p ⟨A, p.reqs.length, c⟩) 44).alloc (.cells #[.int .i64 0] 3)).step hb2
  have HBE : Hid (Below w.heap.size w w2) := Lib.hid ((((Below.refl _ _).alloc (Nat.le_refl _) _).alloc (by simp) _).trans (hb2.mono (by simp; omega)))
  have m0 := hbm.1 0 _ rfl
  have mf := hbm.2.1 0
  have mz := hbm.2.2
  have p6 := hbp.1 6 _ rfl
  have pz := hbp.2.2
  clear hb2 hbm hbp
  have d0 := (HBE.out.cell (p := ⟨bc, oc, none⟩) hbc).trans d0
  have d1 := (HBE.out.cell (p := ⟨bc, oc + (1 + l.length + p.reqs.length), none⟩) hbc).trans d1
  have hbc2 : bc < w2.heap.size := by have := HBE.out.size; omega
  go_wp2_with fail
  obtain ⟨W5, hW5⟩ : ∃ W5, W5 = w2.setCell ⟨w.heap.size + 1, 0, none⟩ (.int .i64 0) := ⟨_, rfl⟩
  have q1 : W5.cell? ⟨w.heap.size + 1, 0, none⟩ = some (.int .i64 0) := by rw [hW5]; exact set_at _ _ _ _ m0
  have hB5 : Below w.heap.size w W5 := by rw [hW5]; exact HBE.out.setCell (by simp) _
  rw [← hW5]
  exact bodyPost_ret (v := .tuple #[.int .i64 0, .int .i64 200]) (by simp [results, Tryz.results41, go_sem, q1]) rfl ⟨rfl, hB5⟩
 cases b1
 rotate_left
 ·obtain ⟨rfl, rfl⟩ := Prod.mk.inj (show (E1, E2) = (0, 200) by rw [HEE.out, if_neg (by simp)])
  clear HEE
  go_enter Tryz.func41, Tryz.ntmps41
  go_wp2_with fail
  refine (hC.out _ (((Below.refl _ _).alloc (Nat.le_refl _) _).alloc (by simp) _)).mono ?_
  rintro e w2 ⟨rfl, hb2⟩
  have hbm := (Bx.at_ (w.alloc (.cells #[.string p.nm, .int .i64 p.number, .int .i64 p.uses, .int .i64 p.earn, .int .i64 p.mean.num, .int .i64 p.mean.den, .slice A p.reqs.length c] 44)) [.int .i64 0] 3 (w.heap.size + 1) (by simp)).step hb2
  have hbp := ((Bx.new w (pgC p ⟨A, p.reqs.length, c⟩) 44).alloc (.cells #[.int .i64 0] 3)).step hb2
  have HBE : Hid (Below w.heap.size w w2) := Lib.hid ((((Below.refl _ _).alloc (Nat.le_refl _) _).alloc (by simp) _).trans (hb2.mono (by simp; omega)))
  have m0 := hbm.1 0 _ rfl
  have mf := hbm.2.1 0
  have mz := hbm.2.2
  have p6 := hbp.1 6 _ rfl
  have pz := hbp.2.2
  clear hb2 hbm hbp
  have d0 := (HBE.out.cell (p := ⟨bc, oc, none⟩) hbc).trans d0
  have d1 := (HBE.out.cell (p := ⟨bc, oc + (1 + l.length + p.reqs.length), none⟩) hbc).trans d1
  have hbc2 : bc < w2.heap.size := by have := HBE.out.size; omega
  go_wp2_with fail
  obtain ⟨W5, hW5⟩ : ∃ W5, W5 = w2.setCell ⟨w.heap.size + 1, 0, none⟩ (.int .i64 0) := ⟨_, rfl⟩
  have q1 : W5.cell? ⟨w.heap.size + 1, 0, none⟩ = some (.int .i64 0) := by rw [hW5]; exact set_at _ _ _ _ m0
  have hB5 : Below w.heap.size w W5 := by rw [hW5]; exact HBE.out.setCell (by simp) _
  rw [← hW5]
  exact bodyPost_ret (v := .tuple #[.int .i64 0, .int .i64 200]) (by simp [results, Tryz.results41, go_sem, q1]) rfl ⟨rfl, hB5⟩
 obtain ⟨rfl, rfl⟩ := Prod.mk.inj (show (E1, E2) = (max 0 (totR p.reqs - sumL (accL p l cs)), 0) by rw [HEE.out]; rfl)
 clear HEE
 have hT := Lib.hid (fun W (h : Below w.heap.size w W) => total_any p ⟨A, p.reqs.length, c⟩ W (HR.out.step h) HG.out)
 unfold pgV at hT
 simp only at hT
 have hTb := totR_bd p.reqs (good_credits HG.out).1
 obtain ⟨T, hTT⟩ : ∃ T, T = totR p.reqs := ⟨_, rfl⟩
 rw [← hTT] at hT hTb
 have hT0 : 0 ≤ T := hTb.1
 have hT1 : T ≤ 640000 := by omega
 have HTT := Lib.hid hTT
 clear hTT hTb
 refine (callsIn_wide (n := 6)).1 ?_
 refine callsIn_of_wp_marks Tryz.func41 rfl trivial ?_ rfl
 simp only [Tryz.ntmps41, List.size_toArray, List.length_cons, List.length_nil, Nat.reduceAdd, Nat.reduceSub, Array.replicate_succ, Array.replicate_zero, List.push_toArray, List.append_toArray, List.nil_append, List.cons_append]
 refine wpIn_wide.2 ?_
 go_wp2_with fail
 refine (hC.out _ (((Below.refl _ _).alloc (Nat.le_refl _) _).alloc (by simp) _)).mono ?_
 rintro e w2 ⟨rfl, hb2⟩
 have hbm := (Bx.at_ (w.alloc (.cells #[.string p.nm, .int .i64 p.number, .int .i64 p.uses, .int .i64 p.earn, .int .i64 p.mean.num, .int .i64 p.mean.den, .slice A p.reqs.length c] 44)) [.int .i64 0] 3 (w.heap.size + 1) (by simp)).step hb2
 have hbp := ((Bx.new w (pgC p ⟨A, p.reqs.length, c⟩) 44).alloc (.cells #[.int .i64 0] 3)).step hb2
 have HBE : Hid (Below w.heap.size w w2) := Lib.hid ((((Below.refl _ _).alloc (Nat.le_refl _) _).alloc (by simp) _).trans (hb2.mono (by simp; omega)))
 have m0 := hbm.1 0 _ rfl
 have mf := hbm.2.1 0
 have mz := hbm.2.2
 have p0 := hbp.1 0 _ rfl
 have p1 := hbp.1 1 _ rfl
 have p2 := hbp.1 2 _ rfl
 have p3 := hbp.1 3 _ rfl
 have p4 := hbp.1 4 _ rfl
 have p5 := hbp.1 5 _ rfl
 have p6 := hbp.1 6 _ rfl
 have pz := hbp.2.2
 have HBP := Lib.hid hbp
 have HBM := Lib.hid hbm
 clear hb2 hbm hbp
 have d0 := (HBE.out.cell (p := ⟨bc, oc, none⟩) hbc).trans d0
 have d1 := (HBE.out.cell (p := ⟨bc, oc + (1 + l.length + p.reqs.length), none⟩) hbc).trans d1
 have hbc2 : bc < w2.heap.size := by have := HBE.out.size; omega
 go_wp2_with fail
 refine (hT.out _ HBE.out).mono ?_
 rintro e w3 ⟨rfl, hb3⟩
 have hbm := HBM.out.step hb3
 have hbp := HBP.out.step hb3
 have HBE3 := Lib.hid (HBE.out.trans (hb3.mono HBE.out.size))
 have m0 := hbm.1 0 _ rfl
 have mf := hbm.2.1 0
 have mz := hbm.2.2
 have p0 := hbp.1 0 _ rfl
 have p1 := hbp.1 1 _ rfl
 have p2 := hbp.1 2 _ rfl
 have p3 := hbp.1 3 _ rfl
 have p4 := hbp.1 4 _ rfl
 have p5 := hbp.1 5 _ rfl
 have p6 := hbp.1 6 _ rfl
 have pz := hbp.2.2
 clear hb3 hbm hbp d0 d1
 go_wp2_with fail
 obtain ⟨W4, hW4⟩ : ∃ X, X = w3.setCell ⟨w.heap.size + 1, 0, none⟩ (.int .i64 T) := ⟨_, rfl⟩
 have hm4 : W4.cell? ⟨w.heap.size + 1, 0, none⟩ = some (.int .i64 T) := by rw [hW4]; exact set_at _ _ _ _ m0
 have hf4 : W4.frozen? ⟨w.heap.size + 1, 0, none⟩ = false := by rw [hW4, World.frozen?_setCell]; exact mf
 have hB4 : Below w.heap.size w W4 := by rw [hW4]; exact HBE3.out.setCell (by simp) _
 have hz4 : w.heap.size + 1 < W4.heap.size := by rw [hW4, World.size_setCell]; exact mz
 rw [← hW4]
 clear hW4 p0 p1 p2 p3 p4 p5 p6 pz m0 mf mz
 have HB4 := Lib.hid hB4
 have hrs := (HR.out.small (Q := fun b => b < w.heap.size) (fun b h => h)).step hB4
 have hls := (HLA.out.small (Q := fun b => b < w.heap.size) (fun b h => h)).step hB4
 have hAC := Lib.hid (across_any (P := P) w.heap.size p ⟨A, p.reqs.length, c⟩ l B b cs bc oc cc W4 hB4.size hrs hls (fun j hj => (hB4.cell (p := ⟨bc, oc + j, none⟩) hbc).trans (HCE.out j hj)) hbc HCL.out hccl hll (by omega))
 unfold pgV at hAC
 simp only at hAC
 clear hB4 hrs hls
 refine hAC.out.mono ?_
 rintro e w5 ⟨⟨bl, ba, bp, br, rfl, hA⟩, hb5⟩
 have hm5 := (hb5.cell (p := ⟨w.heap.size + 1, 0, none⟩) hz4).trans hm4
 have hf5 := (hb5.frozen (p := ⟨w.heap.size + 1, 0, none⟩) hz4).trans hf4
 have hB5 := HB4.out.trans (hb5.mono HB4.out.size)
 have hz5 := hb5.size
 have HI0 : Hid (BndI w (w.heap.size + 1) T [] w5) := Lib.hid ⟨by rw [hm5]; simp [sumL], hf5, hB5⟩
 have HA := Lib.hid hA
 clear hm4 hf4 hm5 hf5 hB5 hb5 hA hAC
 go_wp2_with fail
 refine (wpIn_wide (n := 5)).1 ?_
 refine wpIn_seqG (α := Int) rfl (by decide) (gf := 119) (lb := #[.pointer (some ⟨bl, 0, none⟩), .pointer (some ⟨ba, 0, none⟩), .pointer (some ⟨bp, 0, none⟩), .pointer (some ⟨br, 0, none⟩)]) rfl trivial (enters_of Tryz.func119 (by kernel_rfl) rfl)
  (own := fun _ => False) (free := fun b => b = w.heap.size + 1) (fun _ h => h.elim)
  (across_iter w5 4 p l cs ⟨A, p.reqs.length, c⟩ B b bc oc cc bl ba bp br HA.out HCL.out HG.out HGA.out hll (fun b => b = w.heap.size + 1) (fun b hp hf => by subst hf; rcases hp with h | ⟨h, _⟩ <;> omega) (fun b hf => by subst hf; omega) (fun b hp => by rcases hp with h | ⟨_, h⟩ <;> omega))
  (fun _ => rfl) (BndI w (w.heap.size + 1) T) (fun cc _ _ => False) ?own ?ownx (fun _ _ _ _ _ h => h.elim) (fun _ _ _ _ _ _ h => h.elim) HI0.out
  ?G ?assign ?body ?done ?stop
 case own =>
  rintro pre W W' row ⟨k1, f1, hB⟩ hg hr
  have hs := hB.size
  exact ⟨cell_kept k1 hg (fun r e => (hr r e).2), (frozen_kept k1 hg (fun r e => (hr r e).2)).trans f1, hB.grown hg hs (fun k e => by have := (hr k e).1; omega)⟩
 case ownx => exact fun cc pre W W' row h hg hr => h
 case assign =>
  intro l pre x W K hi hpr hz hK
  gi_wp2
  exact hK _ (KeepsOthers.refl _) (Below.refl _ _)
 case body =>
  rintro l' pre x W ⟨k1, f1, hB⟩ hpr hz
  have zb : w.heap.size + 1 < W.heap.size := by omega
  obtain ⟨t, ht⟩ := hpr
  have hmem : ∀ y ∈ pre ++ [x], 0 ≤ y ∧ y ≤ 10000 := fun y hy => acc_mem cs HG.out HGA.out y (by rw [← ht]; exact List.mem_append_left _ hy)
  have hlp : pre.length ≤ 325064 := by have h1 := congrArg List.length ht; have h2 := acc_len p l cs hll hlen; simp at h1; omega
  obtain ⟨s1, s2⟩ := sumL_le pre 10000 (fun y hy => hmem y (List.mem_append_left _ hy))
  obtain ⟨x1, x2⟩ := hmem x (by simp)
  obtain ⟨S, hS⟩ : ∃ S, S = T - sumL pre := ⟨_, rfl⟩
  rw [← hS] at k1
  have hS0 : S ≤ 640000 := by omega
  have hS1 : -3250640000 ≤ S := by omega
  have HS : Hid (T - sumL (pre ++ [x]) = S - x) := Lib.hid (by rw [sumL_snoc, hS]; omega)
  have HB := Lib.hid hB
  clear hS hB hmem ht hlp s1 s2
  gi_wp2
  refine ⟨KeepsOthers.setCell _ _ _, Keep2.setCell (free := fun b => b = w.heap.size + 1) (Keep2.refl _ _ _) (a := ⟨w.heap.size + 1, 0, none⟩) rfl _, ?_, ?_, HB.out.setCell (by simp) _⟩
  ·rw [HS.out]; exact set_at _ _ _ _ k1
  ·rw [World.frozen?_setCell]; exact f1
 case done =>
  rintro D' ys W hD rfl ⟨k1, f1, hB⟩ hK
  have zb : w.heap.size + 1 < W.heap.size := by have := (Array.getElem?_eq_some_iff.1 hK).1; omega
  obtain ⟨S, hS⟩ : ∃ S, S = T - sumL (accL p l cs) := ⟨_, rfl⟩
  rw [← hS] at k1
  have HS : Hid (S = totR p.reqs - sumL (accL p l cs)) := Lib.hid (by rw [hS, HTT.out])
  have HK := Lib.hid hK
  have HB := Lib.hid hB
  clear hK hB hS
  gi_wp2
  go_wp2_with fail
  all_goals
   first
    | (obtain ⟨W5, hW5⟩ : ∃ W5, W5 = W.setCell ⟨w.heap.size + 1, 0, none⟩ (.int .i64 0) := ⟨_, rfl⟩
       have hV : max 0 (totR p.reqs - sumL (accL p l cs)) = 0 := by rw [← HS.out]; omega
       have q1 : W5.cell? ⟨w.heap.size + 1, 0, none⟩ = some (.int .i64 0) := by rw [hW5]; exact set_at _ _ _ _ k1
       have hK5 : W5.heap[D']? = some (.deferred (some [])) := by rw [hW5]; exact (KeepsOthers.setCell W ⟨w.heap.size + 1, 0, none⟩ (.int .i64 0)).same D' _ HK.out rfl
       have hB5 : Below w.heap.size w W5 := by rw [hW5]; exact HB.out.setCell (by simp) _
       rw [← hW5]
       have q2 := cell_kept q1 (grownBy_putObj' _ D' (.deferred none)) (fun r e => by cases e; exact ⟨_, hK5, rfl⟩)
       have hz5' := hB5.size
       clear hW5
       refine ⟨by simp, .inl ⟨_, _, rfl, run_takeDeferred hK5, ?_⟩⟩
       refine ⟨.tuple #[.int .i64 0, .int .i64 0], by simp [results, Tryz.results41, go_sem, q2], by rw [hV], ?_⟩
       exact hB5.grown (grownBy_putObj' _ D' (.deferred none)) (by omega) (fun k e => by cases e; omega))
    | (obtain ⟨W5, hW5⟩ : ∃ W5, W5 = W.setCell ⟨w.heap.size + 1, 0, none⟩ (.int .i64 S) := ⟨_, rfl⟩
       have hV : max 0 (totR p.reqs - sumL (accL p l cs)) = S := by rw [← HS.out]; omega
       have q1 : W5.cell? ⟨w.heap.size + 1, 0, none⟩ = some (.int .i64 S) := by rw [hW5]; exact set_at _ _ _ _ k1
       have hK5 : W5.heap[D']? = some (.deferred (some [])) := by rw [hW5]; exact (KeepsOthers.setCell W ⟨w.heap.size + 1, 0, none⟩ (.int .i64 S)).same D' _ HK.out rfl
       have hB5 : Below w.heap.size w W5 := by rw [hW5]; exact HB.out.setCell (by simp) _
       rw [← hW5]
       have q2 := cell_kept q1 (grownBy_putObj' _ D' (.deferred none)) (fun r e => by cases e; exact ⟨_, hK5, rfl⟩)
       have hz5' := hB5.size
       clear hW5
       refine ⟨by simp, .inl ⟨_, _, rfl, run_takeDeferred hK5, ?_⟩⟩
       refine ⟨.tuple #[.int .i64 S, .int .i64 0], by simp [results, Tryz.results41, go_sem, q2], by rw [hV], ?_⟩
       exact hB5.grown (grownBy_putObj' _ D' (.deferred none)) (by omega) (fun k e => by cases e; omega))
 case stop => exact fun D' cc pre W hD _ h hK => h.elim
end Go.Proofs.YtalmbigebjbaoaaGreatDoor
namespace Go.Proofs.YtalmbigebjbaoaaGreatDoor
open Go.RowKit Go.Shelf
set_option linter.unusedSimpArgs false
set_option linter.unusedVariables false
theorem sumL_app (a b : List Int) : sumL (a ++ b) = sumL a + sumL b := by
 induction a with
 | nil => simp [sumL]
 | cons x l ih => simp only [List.cons_append, sumL, ih]; omega
end Go.Proofs.YtalmbigebjbaoaaGreatDoor
