/- TopDegree, what its proof leans on: the texts ProK. -/
import Derived.Test.YtalmbigebjbaoaaGreatDoorM09
import Derived.Test.YtalmbigebjbaoaaGreatDoorM10
import Derived.StillTailTactics
import Derived.RegionTactic
import Derived.BigRegion
namespace Go.Proofs.YtalmbigebjbaoaaGreatDoor
open Go.RowKit Go.Shelf
set_option linter.unusedSimpArgs false
set_option linter.unusedVariables false
attribute [local go_sem] Oper.semAt_some
def boolE (b : Bool) : List Value := [.bool b]
def sideA (cs : List Bool) (i : Nat) : Bool := cs.getD (1 + i) false
def sideR (l : List At) (cs : List Bool) (k : Nat) : Bool := cs.getD (1 + l.length + k) false
def cellL (p : Pg) (l : List At) (cs : List Bool) (i k : Nat) : List Int := if !sideR l cs k && elig (p.reqs.getD k default) (l.getD i default) then [(l.getD i default).credits] else []
def rowL (p : Pg) (l : List At) (cs : List Bool) (i : Nat) : List Int := if sideA cs i then (List.range p.reqs.length).flatMap (cellL p l cs i) else [(l.getD i default).credits * p.uses]
def colL (p : Pg) (l : List At) (cs : List Bool) (k : Nat) : List Int := if sideR l cs k then [(p.reqs.getD k default).credits] else []
def accL (p : Pg) (l : List At) (cs : List Bool) : List Int := (List.range l.length).flatMap (rowL p l cs) ++ (List.range p.reqs.length).flatMap (colL p l cs)
theorem flat_range {α : Type} (f : Nat → List α) (k : Nat) : (List.range (k + 1)).flatMap f = (List.range k).flatMap f ++ f k := by
 rw [List.range_succ, List.flatMap_append]
 simp
theorem flat_range_pre {α : Type} (f : Nat → List α) {k n : Nat} (h : k ≤ n) : ∃ t, (List.range k).flatMap f ++ t = (List.range n).flatMap f := by
 induction n with
 | zero =>
   obtain rfl : k = 0 := by omega
   exact ⟨[], by simp⟩
 | succ n ih =>
   rcases Nat.lt_or_ge n k with h1 | h1
   ·obtain rfl : k = n + 1 := by omega
    exact ⟨[], by simp⟩
   ·obtain ⟨t, ht⟩ := ih h1
    exact ⟨t ++ f n, by rw [← List.append_assoc, ht, flat_range]⟩
theorem acc_row {p : Pg} {l : List At} {cs : List Bool} {i : Nat} (h : i < l.length) : ∃ t, (List.range i).flatMap (rowL p l cs) ++ (rowL p l cs i ++ t) = accL p l cs := by
 obtain ⟨t, ht⟩ := flat_range_pre (rowL p l cs) (show i + 1 ≤ l.length by omega)
 rw [flat_range] at ht
 exact ⟨t ++ (List.range p.reqs.length).flatMap (colL p l cs), by unfold accL; rw [← ht]; simp only [List.append_assoc]⟩
theorem acc_cell {p : Pg} {l : List At} {cs : List Bool} {i k : Nat} (h : i < l.length) (hk : k < p.reqs.length) (hs : sideA cs i = true) :
 ∃ t, (List.range i).flatMap (rowL p l cs) ++ (List.range k).flatMap (cellL p l cs i) ++ (cellL p l cs i k ++ t) = accL p l cs := by
 obtain ⟨t, ht⟩ := acc_row (p := p) (cs := cs) h
 obtain ⟨u, hu⟩ := flat_range_pre (cellL p l cs i) (show k + 1 ≤ p.reqs.length by omega)
 rw [flat_range] at hu
 have e : rowL p l cs i = (List.range p.reqs.length).flatMap (cellL p l cs i) := by unfold rowL; rw [if_pos hs]
 rw [e, ← hu] at ht
 exact ⟨u ++ t, by rw [← ht]; simp only [List.append_assoc]⟩
theorem acc_col {p : Pg} {l : List At} {cs : List Bool} {k : Nat} (hk : k < p.reqs.length) :
 ∃ t, (List.range l.length).flatMap (rowL p l cs) ++ (List.range k).flatMap (colL p l cs) ++ (colL p l cs k ++ t) = accL p l cs := by
 obtain ⟨u, hu⟩ := flat_range_pre (colL p l cs) (show k + 1 ≤ p.reqs.length by omega)
 rw [flat_range] at hu
 exact ⟨u, by unfold accL; rw [← hu]; simp only [List.append_assoc]⟩
theorem Bx.keep {W W' : World} {P : Nat → Prop} {b : Nat} {cs : List Value} (h : Bx W b cs) (hk : Kp P W W') (hb : P b) : Bx W' b cs := by
 have e := hk.2 b hb h.2.2
 exact ⟨fun i v x => (World.cell?_of_block (a := ⟨b, i, none⟩) e).trans (h.1 i v x), fun i => (World.frozen?_of_block (a := ⟨b, i, none⟩) e).trans (h.2.1 i), Nat.lt_of_lt_of_le h.2.2 hk.1⟩
def AccI (w : World) (P : Nat → Prop) (p : Pg) (l : List At) (cs : List Bool) (s : Sl) (B : Option Addr) (c : Nat) (bc oc cc : Nat) (bl ba bp br : Nat) : Prop :=
 Bx w bl [.slice B l.length c] ∧ Bx w ba [.slice (some ⟨bc, oc + 1, none⟩) l.length (cc - 1)] ∧ Bx w bp (pgC p s) ∧ Bx w br [.slice (some ⟨bc, oc + (1 + l.length), none⟩) (cs.length - (1 + l.length)) (cc - (1 + l.length))] ∧
 Rqs w P s p.reqs ∧ SlR w P 5 At.enc ⟨B, l.length, c⟩ l ∧ (∀ j, j < cs.length → w.cell? ⟨bc, oc + j, none⟩ = some (.bool (cs.getD j false))) ∧ bc < w.heap.size ∧ P bc ∧ P bl ∧ P ba ∧ P bp ∧ P br
theorem AccI.keep {w w' : World} {P : Nat → Prop} {p : Pg} {l : List At} {cs : List Bool} {s : Sl} {B : Option Addr} {c bc oc cc bl ba bp br : Nat} (h : AccI w P p l cs s B c bc oc cc bl ba bp br) (hk : Kp P w w') : AccI w' P p l cs s B c bc oc cc bl ba bp br := by
 obtain ⟨h1, h2, h3, h4, h5, h6, h7, h8, h9, g1, g2, g3, g4⟩ := h
 exact ⟨h1.keep hk g1, h2.keep hk g2, h3.keep hk g3, h4.keep hk g4, h5.keep hk, h6.keep hk, fun j hj => (World.cell?_of_block (a := ⟨bc, _, none⟩) (hk.2 bc h9 h8)).trans (h7 j hj), Nat.lt_of_lt_of_le h8 hk.1, h9, g1, g2, g3, g4⟩
theorem AccI.step {w w' : World} {P : Nat → Prop} {p : Pg} {l : List At} {cs : List Bool} {s : Sl} {B : Option Addr} {c bc oc cc bl ba bp br : Nat} (h : AccI w P p l cs s B c bc oc cc bl ba bp br) (hb : Below w.heap.size w w') : AccI w' P p l cs s B c bc oc cc bl ba bp br := h.keep (Kp.of_below hb)
set_option maxRecDepth 100000 in
set_option maxHeartbeats 8000000 in
theorem across_iter {P : Nat → Prop} (w : World) (n : Nat) (p : Pg) (l : List At) (cs : List Bool) (s : Sl) (B : Option Addr) (c bc oc cc bl ba bp br : Nat) (hA : AccI w P p l cs s B c bc oc cc bl ba bp br)
 (hcl : cs.length = 2 + l.length + p.reqs.length) (hg : goodP p = true) (hga : ∀ a ∈ l, a.good = true) (hll : l.length ≤ 5000) (free : Nat → Prop) (hfree : ∀ b, P b → ¬ free b) (hfw : ∀ b, free b → b < w.heap.size) (hPw : ∀ b, P b → b < w.heap.size) :
 Iter2 Fence.wide n Tryz.prog 119 #[.pointer (some ⟨bl, 0, none⟩), .pointer (some ⟨ba, 0, none⟩), .pointer (some ⟨bp, 0, none⟩), .pointer (some ⟨br, 0, none⟩)] (fun x : Int => #[.int .i64 x]) (fun _ => False) (Keep2 w.heap.size free)
  (fun ys => ys = accL p l cs) (fun _ => True) (fun ys => ∃ t, ys ++ t = accL p l cs) w := by
 intro L J Jx W hW hW2 hJ hJx hY h0
 refine callsIn_wide.2 ?_
 simp only [List.append_toArray, List.cons_append, List.nil_append]
 obtain ⟨hcr, hlen, hu1, hu4⟩ := good_credits hg
 have HA := Lib.hid hA
 have HCR := Lib.hid hcr
 have HGA := Lib.hid hga
 have HFR := Lib.hid hfree
 have HFW := Lib.hid hfw
 have HPW := Lib.hid hPw
 have HJ := Lib.hid hJ
 have HY := Lib.hid hY
 have H0 := Lib.hid h0
 have HW := Lib.hid (Kp.of_below (P := P) hW)
 have hA1 := hA.step hW
 have x0 := hA1.1.1 0 _ rfl
 have z0 := hA1.1.2.2
 have hzW := hW.size
 have hn := hA.2.2.2.2.1.len
 obtain ⟨A, n0, c0⟩ := s
 simp only at hn
 subst hn
 clear hfw hPw hA hcr hg hga h0 hJ hY hfree hJx hW hA1
 go_enter Tryz.func119, Tryz.ntmps119
 go_wp2_with fail
 go_loopw [14] (fun i wr => ∃ k : Nat, k ≤ l.length ∧ i = .int .i64 k ∧ J ((List.range k).flatMap (rowL p l cs)) wr ∧ Kp P w wr ∧ w.heap.size + 2 ≤ wr.heap.size) (fun i _ => l.length - (intOf i).toNat)
 case atStart => exact ⟨0, Nat.zero_le _, rfl, by simpa using H0.out, HW.out, hW2⟩
 case round =>
  clear x0 z0
  obtain ⟨i, hi, rfl, hj, hkw, hw2⟩ := hrel
  have HJ1 := Lib.hid hj
  have HKW := Lib.hid hkw
  have hzr0 := hkw.1
  have hA1 := HA.out.keep hkw
  have HA1 := Lib.hid hA1
  obtain ⟨e1, e2, e3, e4, eR, eL, eC, eB, _⟩ := hA1
  have x2 := e2.1 0 _ rfl
  have z2 := e2.2.2
  have p2 := e3.1 2 _ rfl
  have p6 := e3.1 6 _ rfl
  have pz := e3.2.2
  clear hj hkw e1 e2 e3 e4
  by_cases hlt : i < l.length
  ·obtain ⟨bA, oA, a, rfl, hbA, hxa, hca⟩ := eL.reads.at_ hlt
   have hgood := HGA.out a (List.mem_of_getElem? hxa)
   obtain ⟨ac, am, ag, ap, ak⟩ := a
   have a0 := hca 0 _ rfl
   have a1 := hca 1 _ rfl
   have a2 := hca 2 _ rfl
   have a3 := hca 3 _ rfl
   have a4 := hca 4 _ rfl
   simp only [Nat.add_zero] at a0
   have hld : l.getD i default = ⟨ac, am, ag, ap, ak⟩ := getD_some hxa
   have HLD := Lib.hid hld
   have cA := eC (1 + i) (by omega)
   rw [show oc + (1 + i) = oc + 1 + i by omega] at cA
   obtain ⟨sa, hsa⟩ : ∃ b, b = sideA cs i := ⟨_, rfl⟩
   rw [show cs.getD (1 + i) false = sa from hsa.symm] at cA
   have HSA := Lib.hid hsa
   obtain ⟨_, _, hk0, hk1, _, _⟩ := good_at hgood
   try simp only at hk0 hk1
   obtain ⟨hp0, hp1⟩ := mul_bd hk0 hk1 hu1 hu4
   have hb4 : Below wr.heap.size wr (wr.alloc (.cells #[.int .i64 ac, .int .i64 am, .int .i64 ag, .int .i64 ap, .int .i64 ak] 69)) := (Below.refl _ _).alloc (Nat.le_refl _) _
   have HB4 := Lib.hid hb4
   clear hld hsa hca hxa hgood eC eL hb4
   cases sa
   ·have HROW : Hid (rowL p l cs i = [ak * p.uses]) := Lib.hid (by unfold rowL; rw [← HSA.out, HLD.out]; rfl)
    have hjn := HJ.out.1 _ _ _ HJ1.out HB4.out
    have HKy : Hid (Kp P w (wr.alloc (.cells #[.int .i64 ac, .int .i64 am, .int .i64 ag, .int .i64 ap, .int .i64 ak] 69))) := Lib.hid (HKW.out.trans (Kp.of_below HB4.out))
    have hzy : (wr.alloc (.cells #[.int .i64 ac, .int .i64 am, .int .i64 ag, .int .i64 ap, .int .i64 ak] 69)).heap.size = wr.heap.size + 1 := by simp
    refine (wpIn_wide (n := n)).1 ?_
    obtain ⟨fn, tmps, assign, body, hy, hR⟩ := HY.out ((List.range i).flatMap (rowL p l cs)) (ak * p.uses) _ hjn (by obtain ⟨t, ht⟩ := acc_row (p := p) (cs := cs) hlt; rw [HROW.out] at ht; exact ⟨t, by rw [← ht]; simp only [List.append_assoc]⟩)
    try simp only at hy
    clear hjn
    gi_wp2
    refine ⟨fun h => (by cases h), hR.mono ?_⟩
    rintro e W3 (⟨rfl, hJ3, hk3⟩ | ⟨rfl, hJx3⟩)
    ·have hk31 := hk3.1
     have hkp : Kp P w W3 := ⟨by have := HKy.out.1; omega, fun b hp hlb => (hk3.2 b (by have := HKy.out.1; omega) (HFR.out b hp) (by have := HPW.out b hp; omega)).trans (HKy.out.2 b hp hlb)⟩
     have HK3 := Lib.hid hk3
     have HKP := Lib.hid hkp
     have HJ3 := Lib.hid hJ3
     clear hk3 hkp hJ3
     gi_wp2
     go_roundw
     case rel => exact ⟨i + 1, by omega, by go_num, by rw [flat_range, HROW.out]; exact HJ3.out, HKP.out, by omega⟩
     case measure => simp [intOf]; omega
    ·gi_wp2
     refine bodyPost_ret (results_none rfl _ _ _) rfl ?_
     exact ⟨⟨_, rfl⟩, .inr ⟨_, trivial, hJx3⟩⟩
   ·have HROW : Hid (rowL p l cs i = (List.range p.reqs.length).flatMap (cellL p l cs i)) := Lib.hid (by unfold rowL; rw [← HSA.out]; rfl)
    go_wp2_with fail
    obtain ⟨Ba, hBa⟩ : ∃ b, b = wr.heap.size := ⟨_, rfl⟩
    obtain ⟨W4, hW4⟩ : ∃ X, X = wr.alloc (.cells #[.int .i64 ac, .int .i64 am, .int .i64 ag, .int .i64 ap, .int .i64 ak] 69) := ⟨_, rfl⟩
    have hbx : Bx W4 Ba [.int .i64 ac, .int .i64 am, .int .i64 ag, .int .i64 ap, .int .i64 ak] := by rw [hW4, hBa]; exact Bx.new ..
    rw [← hW4, ← hBa]
    rw [← hW4] at HB4
    have hw4 : w.heap.size ≤ wr.heap.size := hzr0
    have HBX := Lib.hid hbx
    have HJ4 := Lib.hid (HJ.out.1 _ _ _ HJ1.out HB4.out)
    have HK4 := Lib.hid (HKW.out.trans (Kp.of_below HB4.out))
    have hwBa : w.heap.size + 2 ≤ Ba := by omega
    clear hbx hW4 a0 a1 a2 a3 a4 x2 z2 p2 p6 pz cA hBa hzr0
    obtain ⟨wo, hwo⟩ : ∃ X, X = wr := ⟨_, rfl⟩
    subst hwo
    go_loopw [35] (fun i' wr => ∃ k : Nat, k ≤ p.reqs.length ∧ i' = .int .i64 k ∧ J ((List.range i).flatMap (rowL p l cs) ++ (List.range k).flatMap (cellL p l cs i)) wr ∧ Kp P w wr ∧ wo.heap.size ≤ wr.heap.size ∧ Bx wr Ba [.int .i64 ac, .int .i64 am, .int .i64 ag, .int .i64 ap, .int .i64 ak]) (fun i' _ => p.reqs.length - (intOf i').toNat)
    case atStart => exact ⟨0, Nat.zero_le _, rfl, by simpa using HJ4.out, HK4.out, HB4.out.size, HBX.out⟩
    case round =>
     obtain ⟨k, hk, rfl, hj, hkw, hzo, hbx⟩ := hrel
     have HJ5 := Lib.hid hj
     have HK5 := Lib.hid hkw
     have HBX5 := Lib.hid hbx
     have hzr0 := hkw.1
     have hA1 := HA.out.keep hkw
     obtain ⟨e1, e2, e3, e4, eR, eL, eC, eB, _⟩ := hA1
     have x4 := e4.1 0 _ rfl
     have z4 := e4.2.2
     clear hj hkw e1 e2 e3 e4 eL
     by_cases hlk : k < p.reqs.length
     ·obtain ⟨bb, off, q, nm, ns, f, hAe, hbb, hxq, hqf, c0, c1, c2, c3, c4, c5⟩ := eR.at_ hlk
      simp only at hAe
      subst hAe
      have hqd : p.reqs.getD k default = q := getD_some hxq
      have hfl := eR.frlen q (List.mem_of_getElem? hxq)
      have cR := eC (1 + l.length + k) (by omega)
      rw [show oc + (1 + l.length + k) = oc + (1 + l.length) + k by omega] at cR
      obtain ⟨sr, hsr⟩ : ∃ b, b = sideR l cs k := ⟨_, rfl⟩
      rw [show cs.getD (1 + l.length + k) false = sr from hsr.symm] at cR
      obtain ⟨el, hel⟩ : ∃ b, b = elig q ⟨ac, am, ag, ap, ak⟩ := ⟨_, rfl⟩
      have HCELL : Hid (cellL p l cs i k = if !sr && el then [ak] else []) := Lib.hid (by unfold cellL; rw [← hsr, hqd, HLD.out, ← hel])
      have HEL := Lib.hid hel
      have HQF := Lib.hid hqf
      have hkl : k < cs.length - (1 + l.length) := by omega
      have hb6 : Below wr.heap.size wr (wr.alloc (.cells #[.string nm, .int .i64 q.credits, .int .i64 q.grade, .bool q.home, .slice ns.a ns.n ns.c, .slice f.a f.n f.c] 67)) := (Below.refl _ _).alloc (Nat.le_refl _) _
      have HB6 := Lib.hid hb6
      have b0 := hbx.1 0 _ rfl
      have b1 := hbx.1 1 _ rfl
      have b2 := hbx.1 2 _ rfl
      have b3 := hbx.1 3 _ rfl
      have b4 := hbx.1 4 _ rfl
      have bz := hbx.2.2
      clear hqd hsr hel hqf hxq eR eC hb6 hbx
      cases sr
      rotate_left
      ·go_wp2_with fail
       go_roundw
       case rel => exact ⟨k + 1, by omega, by go_num, by rw [flat_range, HCELL.out]; simpa using HJ.out.1 _ _ _ HJ5.out HB6.out, HK5.out.trans (Kp.of_below HB6.out), Nat.le_trans hzo HB6.out.size, HBX5.out.step HB6.out⟩
       case measure => simp [intOf]; omega
      ·cases el
       ·refine (wpIn_wide (n := n)).1 ?_
        gi_wp2
        refine ⟨trivial, fun h => (by cases h), (callsIn_wide.2 (eligible_any (P := P) q nm ns f ⟨ac, am, ag, ap, ak⟩ _ (HQF.out.step HB6.out) hfl)).mono ?_⟩
        rw [← HEL.out]
        rintro e w1 ⟨rfl, hb1⟩
        have HB1 : Hid (Below wr.heap.size wr w1) := Lib.hid (HB6.out.trans (hb1.mono HB6.out.size))
        clear hb1
        gi_wp2
        refine ⟨fun f h => (by cases h), ?_⟩
        gi_wp2
        all_goals
         go_roundw
         case rel => exact ⟨k + 1, by omega, by go_num, by rw [flat_range, HCELL.out]; simpa using HJ.out.1 _ _ _ HJ5.out HB1.out, HK5.out.trans (Kp.of_below HB1.out), Nat.le_trans hzo HB1.out.size, HBX5.out.step HB1.out⟩
         case measure => simp [intOf]; omega
       ·refine (wpIn_wide (n := n)).1 ?_
        gi_wp2
        refine ⟨trivial, fun h => (by cases h), (callsIn_wide.2 (eligible_any (P := P) q nm ns f ⟨ac, am, ag, ap, ak⟩ _ (HQF.out.step HB6.out) hfl)).mono ?_⟩
        rw [← HEL.out]
        rintro e w1 ⟨rfl, hb1⟩
        have HB1 : Hid (Below wr.heap.size wr w1) := Lib.hid (HB6.out.trans (hb1.mono HB6.out.size))
        have hz1 := HB1.out.size
        have g4 := (HBX5.out.step HB1.out).1 4 _ rfl
        have gz := (HBX5.out.step HB1.out).2.2
        have hjn := HJ.out.1 _ _ _ HJ5.out HB1.out
        have HKy : Hid (Kp P w w1) := Lib.hid (HK5.out.trans (Kp.of_below HB1.out))
        clear hb1
        obtain ⟨fn, tmps, assign, body, hy, hR⟩ := HY.out ((List.range i).flatMap (rowL p l cs) ++ (List.range k).flatMap (cellL p l cs i)) (ak) _ hjn (by obtain ⟨t, ht⟩ := acc_cell (p := p) (cs := cs) hlt hlk HSA.out.symm; rw [HCELL.out] at ht; exact ⟨t, by rw [← ht]; simp⟩)
        try simp only at hy
        clear hjn
        gi_wp2
        refine ⟨fun h => (by cases h), hR.mono ?_⟩
        rintro e W3 (⟨rfl, hJ3, hk3⟩ | ⟨rfl, hJx3⟩)
        ·have hk31 := hk3.1
         have hkp : Kp P w W3 := ⟨by have := HKy.out.1; omega, fun b hp hlb => (hk3.2 b (by have := HKy.out.1; omega) (HFR.out b hp) (by have := HPW.out b hp; omega)).trans (HKy.out.2 b hp hlb)⟩
         have HK3 := Lib.hid hk3
         have HKP := Lib.hid hkp
         have HBX3 : Hid (Bx W3 Ba [.int .i64 ac, .int .i64 am, .int .i64 ag, .int .i64 ap, .int .i64 ak]) := Lib.hid (by have h := HBX5.out.step HB1.out; exact ⟨fun i v e => (World.cell?_of_block (a := ⟨Ba, i, none⟩) (HK3.out.2 Ba h.2.2 (fun hf => by have := HFW.out _ hf; omega) (by omega))).trans (h.1 i v e), fun i => (World.frozen?_of_block (a := ⟨Ba, i, none⟩) (HK3.out.2 Ba h.2.2 (fun hf => by have := HFW.out _ hf; omega) (by omega))).trans (h.2.1 i), by have := h.2.2; omega⟩)
         have HJ3 := Lib.hid hJ3
         clear hk3 hkp hJ3
         gi_wp2
         go_roundw
         case rel => exact ⟨k + 1, by omega, by go_num, by rw [flat_range, HCELL.out, ← List.append_assoc]; exact HJ3.out, HKP.out, by omega, HBX3.out⟩
         case measure => simp [intOf]; omega
        ·gi_wp2
         refine bodyPost_ret (results_none rfl _ _ _) rfl ?_
         exact ⟨⟨_, rfl⟩, .inr ⟨_, trivial, hJx3⟩⟩
     ·obtain rfl : k = p.reqs.length := by omega
      clear eC eR
      go_wp2_with fail
      go_roundw
      case rel => exact ⟨i + 1, by omega, by go_num, by rw [flat_range, HROW.out]; exact HJ5.out, HK5.out, by omega⟩
      case measure => simp [intOf]; omega
  ·obtain rfl : i = l.length := by omega
   clear eC eL
   go_wp2_with fail
   have x0 := trivial
   go_loopw [62] (fun i' wr => ∃ k : Nat, k ≤ p.reqs.length ∧ i' = .int .i64 k ∧ J ((List.range l.length).flatMap (rowL p l cs) ++ (List.range k).flatMap (colL p l cs)) wr ∧ Kp P w wr ∧ w.heap.size + 2 ≤ wr.heap.size) (fun i' _ => p.reqs.length - (intOf i').toNat)
   case atStart => exact ⟨0, Nat.zero_le _, rfl, by simpa using HJ1.out, HKW.out, hw2⟩
   case round =>
    clear x2 z2 p2 p6 pz HJ1 HKW HA1 hw2 hzr0
    obtain ⟨k, hk, rfl, hj, hkw, hw2⟩ := hrel
    have HJ1 := Lib.hid hj
    have HKW := Lib.hid hkw
    have hzr0 := hkw.1
    have hA1 := HA.out.keep hkw
    obtain ⟨e1, e2, e3, e4, eR, eL, eC, eB, _⟩ := hA1
    have x4 := e4.1 0 _ rfl
    have z4 := e4.2.2
    clear hj hkw e1 e2 e3 e4 eL
    by_cases hlk : k < p.reqs.length
    ·obtain ⟨bb, off, q, nm, ns, f, hAe, hbb, hxq, hqf, c0, c1, c2, c3, c4, c5⟩ := eR.at_ hlk
     simp only at hAe
     subst hAe
     have hqd : p.reqs.getD k default = q := getD_some hxq
     have cR := eC (1 + l.length + k) (by omega)
     rw [show oc + (1 + l.length + k) = oc + (1 + l.length) + k by omega] at cR
     obtain ⟨sr, hsr⟩ : ∃ b, b = sideR l cs k := ⟨_, rfl⟩
     rw [show cs.getD (1 + l.length + k) false = sr from hsr.symm] at cR
     have HCOL : Hid (colL p l cs k = if sr then [q.credits] else []) := Lib.hid (by unfold colL; rw [← hsr, hqd])
     have hkl : k < cs.length - (1 + l.length) := by omega
     have HB6 : Hid (Below wr.heap.size wr (wr.alloc (.cells #[.string nm, .int .i64 q.credits, .int .i64 q.grade, .bool q.home, .slice ns.a ns.n ns.c, .slice f.a f.n f.c] 67))) := Lib.hid ((Below.refl _ _).alloc (Nat.le_refl _) _)
     clear hqd hsr hqf hxq eR eC
     cases sr
     ·go_wp2_with fail
      go_roundw
      case rel => exact ⟨k + 1, by omega, by go_num, by rw [flat_range, HCOL.out]; simpa using HJ.out.1 _ _ _ HJ1.out HB6.out, HKW.out.trans (Kp.of_below HB6.out), by simp; omega⟩
      case measure => simp [intOf]; omega
     ·have hjn := HJ.out.1 _ _ _ HJ1.out HB6.out
      have HKy : Hid (Kp P w (wr.alloc (.cells #[.string nm, .int .i64 q.credits, .int .i64 q.grade, .bool q.home, .slice ns.a ns.n ns.c, .slice f.a f.n f.c] 67))) := Lib.hid (HKW.out.trans (Kp.of_below HB6.out))
      have hzy : (wr.alloc (.cells #[.string nm, .int .i64 q.credits, .int .i64 q.grade, .bool q.home, .slice ns.a ns.n ns.c, .slice f.a f.n f.c] 67)).heap.size = wr.heap.size + 1 := by simp
      refine (wpIn_wide (n := n)).1 ?_
      obtain ⟨fn, tmps, assign, body, hy, hR⟩ := HY.out ((List.range l.length).flatMap (rowL p l cs) ++ (List.range k).flatMap (colL p l cs)) (q.credits) _ hjn (by obtain ⟨t, ht⟩ := acc_col (p := p) (l := l) (cs := cs) hlk; rw [HCOL.out] at ht; exact ⟨t, by rw [← ht]; simp⟩)
      try simp only at hy
      clear hjn
      gi_wp2
      refine ⟨fun h => (by cases h), hR.mono ?_⟩
      rintro e W3 (⟨rfl, hJ3, hk3⟩ | ⟨rfl, hJx3⟩)
      ·have hk31 := hk3.1
       have hkp : Kp P w W3 := ⟨by have := HKy.out.1; omega, fun b hp hlb => (hk3.2 b (by have := HKy.out.1; omega) (HFR.out b hp) (by have := HPW.out b hp; omega)).trans (HKy.out.2 b hp hlb)⟩
       have HK3 := Lib.hid hk3
       have HKP := Lib.hid hkp
       have HJ3 := Lib.hid hJ3
       clear hk3 hkp hJ3
       gi_wp2
       go_roundw
       case rel => exact ⟨k + 1, by omega, by go_num, by rw [flat_range, HCOL.out, ← List.append_assoc]; exact HJ3.out, HKP.out, by omega⟩
       case measure => simp [intOf]; omega
      ·gi_wp2
       refine bodyPost_ret (results_none rfl _ _ _) rfl ?_
       exact ⟨⟨_, rfl⟩, .inr ⟨_, trivial, hJx3⟩⟩
    ·obtain rfl : k = p.reqs.length := by omega
     clear eC eR
     go_wp2_with fail
     go_end0
     exact ⟨⟨_, rfl⟩, .inl ⟨_, rfl, HJ1.out⟩⟩
end Go.Proofs.YtalmbigebjbaoaaGreatDoor
