/- TopDegree, what its proof leans on: the texts ProD, Ints, ProE. -/
import Derived.Test.YtalmbigebjbaoaaGreatDoorM06
import Derived.Test.YtalmbigebjbaoaaGreatDoorM02
import Derived.Test.YtalmbigebjbaoaaGreatDoorRows
import Derived.Laws.MakeOwn
import Derived.Deep.RegionHeldLaw
import Derived.BigRegion
namespace Go.Proofs.YtalmbigebjbaoaaGreatDoor
open Go.RowKit Go.Shelf
set_option linter.unusedSimpArgs false
set_option linter.unusedVariables false
theorem maxLen_le {n : Nat} (h : n ≤ maxLen) : n ≤ 9223372036854775807 := h
theorem Rqs.frlen {w : World} {P : Nat → Prop} {s : Sl} {qs : List Rq} (h : Rqs w P s qs) : ∀ q ∈ qs, q.fr.length ≤ 9223372036854775807 := by
 intro q hq
 obtain ⟨i, hi, rfl⟩ := List.getElem_of_mem hq
 obtain ⟨hs, h1, h2, h3⟩ := h
 have hx : hs[i]? = some hs[i] := List.getElem?_eq_getElem (by omega)
 obtain ⟨_, _, _, k⟩ := h3 i _ _ hx (List.getElem?_eq_getElem hi)
 rw [← k.1]
 exact maxLen_le (Nat.le_trans k.2.1 k.2.2.1)
theorem take_snoc_of {α : Type} {xs : List α} {k : Nat} {x : α} (h : xs[k]? = some x) : xs.take (k + 1) = xs.take k ++ [x] := by
 have hl := (List.getElem?_eq_some_iff.1 h).1
 rw [List.take_succ_eq_append_getElem hl, (List.getElem?_eq_some_iff.1 h).2]
def elig (q : Rq) (a : At) : Bool := q.fr.any (fun c => c == a.course) && (decide (q.grade ≤ a.grade) && (!q.home || a.campus == 0))
def totR : List Rq → Int
 | [] => 0
 | q :: l => q.credits + totR l
theorem totR_snoc (q : Rq) : ∀ l, totR (l ++ [q]) = totR l + q.credits
 | [] => by simp [totR]
 | y :: l => by simp only [List.cons_append, totR, totR_snoc q l]; omega
theorem totR_bd : ∀ l : List Rq, (∀ q ∈ l, 1 ≤ q.credits ∧ q.credits ≤ 10000) → 0 ≤ totR l ∧ totR l ≤ 10000 * (l.length : Int)
 | [], _ => by simp [totR]
 | x :: l, h => by
   obtain ⟨h1, h2⟩ := totR_bd l (fun y hy => h y (List.mem_cons_of_mem _ hy))
   have := h x (List.mem_cons_self ..)
   simp only [totR, List.length_cons]
   omega
theorem good_credits {p : Pg} (h : goodP p = true) : (∀ q ∈ p.reqs, 1 ≤ q.credits ∧ q.credits ≤ 10000) ∧ p.reqs.length ≤ 64 ∧ 1 ≤ p.uses ∧ p.uses ≤ 4 := by
 obtain ⟨_, h2, _, _, _, h6, h7⟩ := (goodP_iff p).1 h
 refine ⟨fun q hq => ?_, h6, h2.1, h2.2⟩
 have := List.any_eq_false.1 h7 q hq
 exact ((goodQ_iff q).1 (by simpa using this)).1
def askedE (p : Pg) (l : List At) : Int := if checkP p = 0 then (sumsA l).2.2 else checkP p
set_option maxHeartbeats 2000000 in
theorem indexV_any {P : Nat → Prop} (v : Int) (xs : List Int) (A : Option Addr) (c : Nat) (w : World) (hx : Reads w w.heap.size A 1 intE xs) (hl : xs.length ≤ 9223372036854775807) :
 Calls Tryz.prog 120 #[.slice A xs.length c, .int .i64 v] w fun e w' => (∃ m : Int, e = .returned (.int .i64 m) ∧ decide (0 ≤ m) = xs.any (fun c => c == v)) ∧ Below w.heap.size w w' := by
 have HX := Lib.hid hx
 clear hx
 go_enter Tryz.func120, Tryz.ntmps120
 go_wp2_with fail
 go_loopw [8] (fun i wr => ∃ k : Nat, k ≤ xs.length ∧ i = .int .i64 k ∧ (∀ j (h : j < xs.length), j < k → (fun c => c == v) xs[j] = false) ∧ Below w.heap.size w wr) (fun i _ => xs.length - (intOf i).toNat)
 case atStart => exact ⟨0, Nat.zero_le _, rfl, fun _ _ h => absurd h (by omega), Below.refl _ _⟩
 case round =>
  obtain ⟨k, hk, rfl, hno, hB⟩ := hrel
  have HNO := Lib.hid hno
  clear hno
  by_cases hlt : k < xs.length
  ·obtain ⟨bb, off, x, rfl, hbl, hxk, hc⟩ := (HX.out.below hB).at_ hlt
   have c0 := hc 0 _ rfl
   simp only [Nat.add_zero, Nat.mul_one] at c0
   have HXK := Lib.hid hxk
   have HB := Lib.hid hB
   have hbw : bb < wr.heap.size := by have := hB.size; omega
   clear hc hxk hB
   cases e : x == v
   ·have HQ : Hid ((fun c => c == v) x = false) := Lib.hid e
    have e2 : (v == x) = false := by simp at e ⊢; exact fun h => e h.symm
    go_wp2_with fail
    go_roundw
    case rel => exact ⟨k + 1, by omega, by go_num, step_no (p := fun c => c == v) HNO.out HXK.out HQ.out, HB.out⟩
    case measure => simp [intOf]; omega
   ·have HA : Hid (xs.any (fun c => c == v) = true) := Lib.hid (any_true HXK.out e)
    have e2 : (v == x) = true := by simp at e ⊢; exact e.symm
    go_wp2_with fail
    go_ret
    exact ⟨⟨_, rfl, by rw [HA.out]; simp⟩, HB.out⟩
  ·obtain rfl : k = xs.length := by omega
   have HA : Hid (xs.any (fun c => c == v) = false) := Lib.hid (any_false (fun j hj => HNO.out j hj hj))
   go_wp2_with fail
   go_ret
   exact ⟨⟨_, rfl, by rw [HA.out]; decide⟩, hB⟩
theorem containsV_any {P : Nat → Prop} (v : Int) (xs : List Int) (A : Option Addr) (c : Nat) (w : World) (hx : Reads w w.heap.size A 1 intE xs) (hl : xs.length ≤ 9223372036854775807) :
 Calls Tryz.prog 76 #[.slice A xs.length c, .int .i64 v] w fun e w' => e = .returned (.bool (xs.any (fun c => c == v))) ∧ Below w.heap.size w w' := by
 go_enter Tryz.func76, Tryz.ntmps76
 go_wp2_with fail
 refine (indexV_any (P := P) v xs A c _ hx hl).mono ?_
 rintro e w1 ⟨⟨m, rfl, hm⟩, hb1⟩
 have HM := Lib.hid hm
 clear hm
 go_wp2_with fail
 go_ret
 exact ⟨ret_bool HM.out, hb1⟩
set_option maxHeartbeats 4000000 in
theorem eligible_any {P : Nat → Prop} (q : Rq) (nm : ByteArray) (ns f : Sl) (a : At) (w : World) (hf : SlR w P 1 intE f q.fr) (hl : q.fr.length ≤ 9223372036854775807) :
 Calls Tryz.prog 43 #[rqV q nm ns f, a.v] w fun e w' => e = .returned (.bool (elig q a)) ∧ Below w.heap.size w w' := by
 obtain ⟨A, n, c⟩ := f
 have hn := hf.1
 simp only at hn
 subst hn
 have HR := Lib.hid hf.reads
 clear hf
 obtain ⟨E, hE⟩ : ∃ E, E = elig q a := ⟨_, rfl⟩
 rw [← hE]
 unfold elig at hE
 unfold rqV At.v
 simp only
 obtain ⟨hm, hhm⟩ : ∃ b, b = q.home := ⟨_, rfl⟩
 rw [← hhm] at hE ⊢
 clear hhm
 obtain ⟨b1, hb1⟩ : ∃ b, b = q.fr.any (fun c => c == a.course) := ⟨_, rfl⟩
 have H1 := Lib.hid hb1.symm
 rw [← hb1] at hE
 clear hb1
 cases b1 <;> cases b2 : decide (q.grade ≤ a.grade) <;> cases hm <;> cases b4 : a.campus == 0
 all_goals
  rw [b2, b4] at hE
  simp only [Bool.false_and, Bool.true_and, Bool.not_false, Bool.not_true, Bool.true_or, Bool.false_or] at hE
  subst hE
  go_enter Tryz.func43, Tryz.ntmps43
  go_wp2_with fail
  refine (containsV_any (P := P) a.course q.fr A c _ (((HR.out.alloc (Nat.le_refl _) _).alloc (by simp) _).more (by simp; omega)) hl).mono ?_
  rw [H1.out]
  rintro e w2 ⟨rfl, hb2⟩
  have hbx := (Bx.at_ (w.alloc (.cells #[.string nm, .int .i64 q.credits, .int .i64 q.grade, .bool _, .slice ns.a ns.n ns.c, .slice A q.fr.length c] 67)) [.int .i64 a.course, .int .i64 a.term, .int .i64 a.grade, .int .i64 a.campus, .int .i64 a.credits] 69 (w.heap.size + 1) (by simp)).step hb2
  have hby := ((Bx.new w [.string nm, .int .i64 q.credits, .int .i64 q.grade, .bool _, .slice ns.a ns.n ns.c, .slice A q.fr.length c] 67).step ((Below.refl _ _).alloc (Nat.le_refl _) _)).step hb2
  have hbe : Below w.heap.size w w2 := (((Below.refl _ _).alloc (Nat.le_refl _) _).alloc (by simp) _).trans (hb2.mono (by simp; omega))
  have x2 := hbx.1 2 _ rfl
  have x3 := hbx.1 3 _ rfl
  have y2 := hby.1 2 _ rfl
  have y3 := hby.1 3 _ rfl
  have zx := hbx.2.2
  have zy := hby.2.2
  have HBE := Lib.hid hbe
  clear hbx hby hbe hb2
  go_wp2_with fail
  go_ret
  exact ⟨rfl, HBE.out⟩
set_option maxHeartbeats 4000000 in
theorem total_any {P : Nat → Prop} (p : Pg) (s : Sl) (w : World) (hr : Rqs w P s p.reqs) (hg : goodP p = true) :
 Calls Tryz.prog 74 #[pgV p s] w fun e w' => e = .returned (.int .i64 (totR p.reqs)) ∧ Below w.heap.size w w' := by
 obtain ⟨hcr, hlen, _, _⟩ := good_credits hg
 have hn := hr.len
 have HR := Lib.hid hr
 have HCR := Lib.hid hcr
 obtain ⟨A, n, c⟩ := s
 simp only at hn
 subst hn
 clear hr hg hcr
 obtain ⟨E, hE⟩ : ∃ E, E = totR p.reqs := ⟨_, rfl⟩
 rw [← hE]
 have HE := Lib.hid hE
 clear hE
 unfold pgV
 simp only
 go_enter Tryz.func74, Tryz.ntmps74
 go_wp2_with fail
 have hbx := Bx.new w (pgC p ⟨A, p.reqs.length, c⟩) 44
 have hbe : Below w.heap.size w (w.alloc (.cells #[.string p.nm, .int .i64 p.number, .int .i64 p.uses, .int .i64 p.earn, .int .i64 p.mean.num, .int .i64 p.mean.den, .slice A p.reqs.length c] 44)) := (Below.refl _ _).alloc (Nat.le_refl _) _
 unfold pgC at hbx
 simp only at hbx
 obtain ⟨w2, hw2⟩ : ∃ X, X = w.alloc (.cells #[.string p.nm, .int .i64 p.number, .int .i64 p.uses, .int .i64 p.earn, .int .i64 p.mean.num, .int .i64 p.mean.den, .slice A p.reqs.length c] 44) := ⟨_, rfl⟩
 rw [← hw2] at hbx hbe ⊢
 clear hw2
 have HBX := Lib.hid hbx
 have HBE := Lib.hid hbe
 clear hbx hbe
 go_loopw [2, 8] (fun v0 v1 wr => ∃ k : Nat, k ≤ p.reqs.length ∧ v1 = .int .i64 k ∧ v0 = .int .i64 (totR (p.reqs.take k)) ∧ Below w2.heap.size w2 wr) (fun v0 v1 _ => p.reqs.length - (intOf v1).toNat)
 case atStart => exact ⟨0, Nat.zero_le _, rfl, rfl, Below.refl _ _⟩
 case round =>
  obtain ⟨k, hk, rfl, rfl, hB⟩ := hrel
  have hbx := HBX.out.step hB
  have p6 := hbx.1 6 _ rfl
  have pz := hbx.2.2
  have hBE2 : Below w.heap.size w wr := HBE.out.trans (hB.mono HBE.out.size)
  obtain ⟨ta, tb⟩ := totR_bd (p.reqs.take k) (fun q hq => HCR.out q (List.mem_of_mem_take hq))
  have tl : (p.reqs.take k).length ≤ k := List.length_take_le _ _
  obtain ⟨T, hT⟩ : ∃ T, T = totR (p.reqs.take k) := ⟨_, rfl⟩
  rw [← hT] at ta tb ⊢
  have htb : T ≤ 640000 := by omega
  have HT := Lib.hid hT
  clear hT tb tl
  by_cases hlt : k < p.reqs.length
  ·obtain ⟨bb, off, q, nm, ns, f, ha, hbb, hxk, hq, c0, c1, c2, c3, c4, c5⟩ := (HR.out.step hBE2).at_ hlt
   simp only at ha
   subst ha
   have HB := Lib.hid hB
   obtain ⟨q1, q2⟩ := HCR.out q (List.mem_of_getElem? hxk)
   have HS : Hid (totR (p.reqs.take (k + 1)) = T + q.credits) := Lib.hid (by rw [take_snoc_of hxk, totR_snoc, HT.out])
   clear hxk hq hB hBE2 hbx
   go_wp2_with fail
   go_roundw
   case rel => exact ⟨k + 1, by omega, by go_num, by rw [HS.out], HB.out.trans (((Below.refl _ _).alloc (Nat.le_refl _) _).mono HB.out.size)⟩
   case measure => simp [intOf]; omega
  ·obtain rfl : k = p.reqs.length := by omega
   have hTE : T = E := by rw [HT.out, HE.out, List.take_length]
   subst hTE
   have HB := Lib.hid hBE2
   clear hBE2 hB hbx
   go_wp2_with fail
   go_ret
   exact ⟨rfl, HB.out⟩
set_option maxHeartbeats 4000000 in
theorem asked_any {P : Nat → Prop} (p : Pg) (s : Sl) (l : List At) (A : Option Addr) (c : Nat) (w : World) (hr : Rqs w P s p.reqs) (hi : p.mean.i64) (hx : Reads w w.heap.size A 5 At.enc l) (hl : l.length ≤ 100000) :
 Calls Tryz.prog 42 #[pgV p s, .slice A l.length c] w fun e w' => e = .returned (.int .i64 (askedE p l)) ∧ Below w.heap.size w w' := by
 have HX := Lib.hid hx
 have hC := Lib.hid (fun W (h : Below w.heap.size w W) => dgCheck_any p s W (hr.step h) hi)
 have hS := Lib.hid (fun W h => Sums_any l A c W h hl)
 clear hx
 obtain ⟨E, hE⟩ : ∃ E, E = askedE p l := ⟨_, rfl⟩
 rw [← hE]
 obtain ⟨S1, S2, S3, hS3⟩ : ∃ a b c, sumsA l = (a, b, c) := ⟨_, _, _, rfl⟩
 rw [hS3] at hS
 unfold askedE at hE
 rw [hS3] at hE
 clear hS3
 obtain ⟨C, hCk⟩ : ∃ C, C = checkP p := ⟨_, rfl⟩
 rw [← hCk] at hC hE
 clear hCk
 unfold pgV at hC ⊢
 simp only at hE hS
 by_cases h0 : C = 0
 ·rw [if_pos h0] at hE
  subst hE
  subst h0
  go_enter Tryz.func42, Tryz.ntmps42
  go_wp2_with fail
  refine (hC.out _ ((Below.refl _ _).alloc (Nat.le_refl _) _)).mono ?_
  rintro e w2 ⟨rfl, hb2⟩
  have HBE : Hid (Below w.heap.size w w2) := Lib.hid (((Below.refl _ _).alloc (Nat.le_refl _) _).trans (hb2.mono (by simp)))
  clear hb2
  go_wp2_with fail
  refine (hS.out _ ((HX.out.below HBE.out).more HBE.out.size)).mono ?_
  rintro e w3 ⟨rfl, hb3⟩
  go_wp2_with fail
  go_ret
  exact ⟨rfl, HBE.out.trans (hb3.mono HBE.out.size)⟩
 ·rw [if_neg h0] at hE
  subst hE
  have e1 : (E == 0) = false := by simpa using h0
  have e2 : (E != 0) = true := by simpa using h0
  clear h0
  go_enter Tryz.func42, Tryz.ntmps42
  go_wp2_with fail
  refine (hC.out _ ((Below.refl _ _).alloc (Nat.le_refl _) _)).mono ?_
  rintro e w2 ⟨rfl, hb2⟩
  have HBE : Hid (Below w.heap.size w w2) := Lib.hid (((Below.refl _ _).alloc (Nat.le_refl _) _).trans (hb2.mono (by simp)))
  clear hb2
  go_wp2_with fail
  go_ret
  exact ⟨rfl, HBE.out⟩
end Go.Proofs.YtalmbigebjbaoaaGreatDoor
namespace Go.Proofs.YtalmbigebjbaoaaGreatDoor
open Go.RowKit
set_option linter.unusedSimpArgs false
set_option linter.unusedVariables false
def FlAt (w : World) (F : Nat) (xs : List Int) : Prop := w.heap[F]? = some (.cells (xs.map (Value.int .i64)).toArray 3 (0, 0))
theorem FlAt.step {w w' : World} {F : Nat} {xs : List Int} (h : FlAt w F xs) (hb : Below w.heap.size w w') : FlAt w' F xs := (hb.block F (Array.getElem?_eq_some_iff.1 h).1).trans h
theorem FlAt.lt {w : World} {F : Nat} {xs : List Int} (h : FlAt w F xs) : F < w.heap.size := (Array.getElem?_eq_some_iff.1 h).1
theorem FlAt.cell {w : World} {F : Nat} {xs : List Int} (h : FlAt w F xs) {i : Nat} (hi : i < xs.length) : w.cell? ⟨F, i, none⟩ = some (.int .i64 (xs.getD i 0)) := by
 unfold FlAt at h
 simp [World.cell?, h, List.getD_eq_getElem?_getD, List.getElem?_eq_getElem hi]
theorem FlAt.free {w : World} {F : Nat} {xs : List Int} (h : FlAt w F xs) (i : Nat) : w.frozen? ⟨F, i, none⟩ = false := by
 unfold FlAt at h
 simp [World.frozen?, h]
theorem FlAt.set {w : World} {F : Nat} {xs : List Int} (h : FlAt w F xs) (i : Nat) (v : Int) : FlAt (w.setCell ⟨F, i, none⟩ (.int .i64 v)) F (xs.set i v) := by
 unfold FlAt at *
 rw [heap_setCell_same w F i _ _ _ h]
 congr 2
 apply Array.ext'
 simp [List.map_set]
theorem FlAt.far {w : World} {F : Nat} {xs : List Int} (h : FlAt w F xs) {a : Addr} (ha : F ≠ a.block) (u : Value) : FlAt (w.setCell a u) F xs := (Below.heap_setCell _ _ _ _ ha).trans h
theorem FlAt.alloc {w : World} {F : Nat} {xs : List Int} (h : FlAt w F xs) (o : Obj) : FlAt (w.alloc o) F xs := h.step ((Below.refl _ _).alloc (Nat.le_refl _) _)
theorem getD_some {α : Type} {xs : List α} {i : Nat} {x d : α} (h : xs[i]? = some x) : xs.getD i d = x := by simp [List.getD_eq_getElem?_getD, h]
theorem getD_set (xs : List Int) (i j : Nat) (z : Int) (hi : i < xs.length) : (xs.set i z).getD j 0 = if i = j then z else xs.getD j 0 := by
 simp only [List.getD_eq_getElem?_getD, List.getElem?_set]
 split
 ·rename_i h; subst h; simp [hi]
 ·rfl
theorem Tryz.infoInt : (Tryz.prog.info? 3).map (fun i => (i.zero, i.size, i.bytes)) = some (some (.int .i64 0), 1, 8) := by kernel_rfl
theorem made_ints (n : Nat) : madeCells (Value.int .i64 0).cells n = ((List.replicate n (0 : Int)).map (Value.int .i64)).toArray := by
 apply Array.ext
 ·simp [size_madeCells]
 ·intro i h1 h2
  simp [madeCells, Value.cells, Nat.mod_one]
theorem run_make_ints (n : Nat) (hn : n ≤ 1000000) (W : World) : (Instr.makeSlice 64 (.int .i64 n) (.int .i64 n)).run Tryz.prog W = .ok (.slice (some ⟨W.heap.size, 0, none⟩) n n) (W.alloc (.cells ((List.replicate n (0 : Int)).map (Value.int .i64)).toArray 3)) := by
 obtain ⟨i0, hinf, hz0, hz1, hz2⟩ := info_parts Tryz.infoInt
 have h := run_make (P := Tryz.prog) W 64 3 i0 (.int .i64 0) Tryz.underlying64 hinf hz0 .i64 .i64 (n : Int) (n : Int) (by omega) (by omega) (by rw [hz2]; omega) (by omega)
 rw [hz1] at h
 simp only [Int.toNat_natCast, Nat.mul_one, made_ints] at h
 exact h
theorem FlAt.made (w : World) (xs : List Int) : FlAt (w.alloc (.cells (xs.map (Value.int .i64)).toArray 3)) w.heap.size xs := heap_alloc_new w _
end Go.Proofs.YtalmbigebjbaoaaGreatDoor
namespace Go.Proofs.YtalmbigebjbaoaaGreatDoor
open Go.RowKit Go.Shelf
set_option linter.unusedSimpArgs false
set_option linter.unusedVariables false
structure Us where
 att : Int
 req : Int
 credits : Int
 deriving DecidableEq
instance : Inhabited Us := ⟨⟨0, 0, 0⟩⟩
def Us.enc (u : Us) : List Value := [.int .i64 u.att, .int .i64 u.req, .int .i64 u.credits]
theorem Us.enc_len (u : Us) : u.enc.length = 3 := rfl
theorem Us.enc_one (u : Us) : ∀ x ∈ u.enc, x.oneCell' = true := by
 intro x hx
 simp [Us.enc] at hx
 rcases hx with rfl | rfl | rfl <;> rfl
def usR (k : Int) : List Us → Int
 | [] => 0
 | u :: l => (if u.req = k then u.credits else 0) + usR k l
def usA (k : Int) : List Us → Int
 | [] => 0
 | u :: l => (if u.att = k then u.credits else 0) + usA k l
def usT : List Us → Int
 | [] => 0
 | u :: l => u.credits + usT l
theorem usR_snoc (k : Int) (u : Us) : ∀ l, usR k (l ++ [u]) = usR k l + (if u.req = k then u.credits else 0)
 | [] => by simp [usR]
 | y :: l => by simp only [List.cons_append, usR, usR_snoc k u l]; omega
theorem usA_snoc (k : Int) (u : Us) : ∀ l, usA k (l ++ [u]) = usA k l + (if u.att = k then u.credits else 0)
 | [] => by simp [usA]
 | y :: l => by simp only [List.cons_append, usA, usA_snoc k u l]; omega
def okM (qs : List Rq) (pre : List Us) (u : Us) : Bool :=
 decide (0 ≤ u.req) && (decide (u.req < (qs.length : Int)) && (decide (1 ≤ u.credits) && decide (u.credits ≤ (qs.getD u.req.toNat default).credits - usR u.req pre)))
def okMgo (qs : List Rq) : List Us → List Us → Bool
 | _, [] => true
 | pre, u :: l => okM qs pre u && okMgo qs (pre ++ [u]) l
theorem okM_iff (qs : List Rq) (pre : List Us) (u : Us) : okM qs pre u = true ↔ 0 ≤ u.req ∧ u.req < (qs.length : Int) ∧ 1 ≤ u.credits ∧ u.credits ≤ (qs.getD u.req.toNat default).credits - usR u.req pre := by
 simp only [okM, Bool.and_eq_true, decide_eq_true_eq]
def missP (p : Pg) (us : List Us) : Int × Int := if checkP p = 0 then (if okMgo p.reqs [] us then (totR p.reqs - usT us, 0) else (0, 200)) else (0, checkP p)
def restR (qs : List Rq) (pre : List Us) : List Int := (List.range qs.length).map fun k => (qs.getD k default).credits - usR k pre
theorem restR_len (qs : List Rq) (pre : List Us) : (restR qs pre).length = qs.length := by simp [restR]
theorem restR_at (qs : List Rq) (pre : List Us) {k : Nat} (h : k < qs.length) : (restR qs pre).getD k 0 = (qs.getD k default).credits - usR k pre := by
 simp [restR, List.getD_eq_getElem?_getD, List.getElem?_range h]
theorem list_ext_getD {xs ys : List Int} (hl : xs.length = ys.length) (h : ∀ k, k < xs.length → xs.getD k 0 = ys.getD k 0) : xs = ys := by
 apply List.ext_getElem hl
 intro i h1 h2
 have := h i h1
 simpa [List.getD_eq_getElem?_getD, List.getElem?_eq_getElem h1, List.getElem?_eq_getElem h2] using this
theorem restR_set (qs : List Rq) (pre : List Us) (u : Us) {k : Nat} (hk : u.req = k) (h : k < qs.length) : (restR qs pre).set k ((qs.getD k default).credits - usR k pre - u.credits) = restR qs (pre ++ [u]) := by
 refine list_ext_getD (by simp [restR_len]) (fun j hj => ?_)
 rw [List.length_set, restR_len] at hj
 rw [getD_set _ _ _ _ (by rw [restR_len]; exact h), restR_at qs pre hj, restR_at qs (pre ++ [u]) hj, usR_snoc]
 by_cases e : k = j
 ·subst e; rw [if_pos rfl, if_pos hk]; omega
 ·rw [if_neg e, if_neg (by omega)]; omega
def fillR (qs : List Rq) (k : Nat) : List Int := (List.range qs.length).map fun j => if j < k then (qs.getD j default).credits else 0
theorem fillR_len (qs : List Rq) (k : Nat) : (fillR qs k).length = qs.length := by simp [fillR]
theorem fillR_zero (qs : List Rq) : fillR qs 0 = List.replicate qs.length 0 := by
 refine list_ext_getD (by simp [fillR]) (fun j hj => ?_)
 rw [fillR_len] at hj
 simp [fillR, List.getD_eq_getElem?_getD, List.getElem?_range hj, List.getElem?_replicate, hj]
theorem fillR_set (qs : List Rq) {k : Nat} {q : Rq} (h : qs[k]? = some q) : (fillR qs k).set k q.credits = fillR qs (k + 1) := by
 have hk := (List.getElem?_eq_some_iff.1 h).1
 refine list_ext_getD (by simp [fillR_len]) (fun j hj => ?_)
 rw [List.length_set, fillR_len] at hj
 rw [getD_set _ _ _ _ (by rw [fillR_len]; exact hk)]
 simp only [fillR, List.getD_eq_getElem?_getD, List.getElem?_map, List.getElem?_range hj, Option.map_some, Option.getD_some]
 by_cases e : k = j
 ·subst e; rw [if_pos rfl, if_pos (by omega), h]; rfl
 ·rw [if_neg e]; by_cases e2 : j < k
  ·rw [if_pos e2, if_pos (by omega)]
  ·rw [if_neg e2, if_neg (by omega)]
theorem fillR_all (qs : List Rq) : fillR qs qs.length = restR qs [] := by
 refine list_ext_getD (by simp [fillR_len, restR_len]) (fun j hj => ?_)
 rw [fillR_len] at hj
 rw [restR_at _ _ hj]
 simp [fillR, List.getD_eq_getElem?_getD, List.getElem?_range hj, usR, hj]
def sumL : List Int → Int
 | [] => 0
 | x :: l => x + sumL l
theorem sumL_snoc (x : Int) : ∀ l, sumL (l ++ [x]) = sumL l + x
 | [] => by simp [sumL]
 | y :: l => by simp only [List.cons_append, sumL, sumL_snoc x l]; omega
theorem sumL_set : ∀ (l : List Int) (k : Nat) (v : Int), k < l.length → sumL (l.set k v) = sumL l - l.getD k 0 + v
 | [], k, v, h => by simp at h
 | x :: l, 0, v, h => by simp only [List.set_cons_zero, sumL, List.getD_cons_zero]; omega
 | x :: l, k + 1, v, h => by simp only [List.set_cons_succ, sumL, List.getD_cons_succ, sumL_set l k v (by simpa using h)]; omega
theorem fill_total : ∀ qs : List Rq, sumL ((List.range qs.length).map fun k => (qs.getD k default).credits) = totR qs := by
 intro qs
 have e : ((List.range qs.length).map fun k => (qs.getD k default).credits) = qs.map Rq.credits := by
  apply List.ext_getElem (by simp)
  intro i h1 h2
  simp at h1 h2 ⊢
  simp [h2]
 rw [e]
 clear e
 induction qs with
 | nil => rfl
 | cons q l ih => simp only [List.map_cons, sumL, totR, ih]
theorem rest_total (qs : List Rq) : ∀ (us pre : List Us), okMgo qs pre us = true → sumL (restR qs (pre ++ us)) = sumL (restR qs pre) - usT us
 | [], pre, _ => by simp [usT]
 | u :: l, pre, h => by
   simp only [okMgo, Bool.and_eq_true] at h
   obtain ⟨h1, h2⟩ := h
   obtain ⟨a, b, c, d⟩ := (okM_iff _ _ _).1 h1
   obtain ⟨k, hk⟩ : ∃ k : Nat, u.req = k := ⟨u.req.toNat, by omega⟩
   have hkl : k < qs.length := by omega
   have := rest_total qs l (pre ++ [u]) h2
   rw [List.append_assoc] at this
   rw [show pre ++ u :: l = pre ++ ([u] ++ l) from rfl, this, ← restR_set qs pre u hk hkl, sumL_set _ _ _ (by rw [restR_len]; exact hkl), restR_at _ _ hkl]
   simp only [usT]
   omega
theorem rest_nil_total (qs : List Rq) : sumL (restR qs []) = totR qs := by rw [← fill_total]; simp [restR, usR]
theorem rest_pos (qs : List Rq) (hq : ∀ q ∈ qs, 1 ≤ q.credits) : ∀ (pre us : List Us), okMgo qs pre us = true → (∀ k : Nat, k < qs.length → 0 ≤ (qs.getD k default).credits - usR k pre) → ∀ k : Nat, k < qs.length → 0 ≤ (qs.getD k default).credits - usR k (pre ++ us)
 | pre, [], _, h => by simpa using h
 | pre, u :: l, h, h0 => by
   simp only [okMgo, Bool.and_eq_true] at h
   obtain ⟨h1, h2⟩ := h
   obtain ⟨a, b, c, d⟩ := (okM_iff _ _ _).1 h1
   have := rest_pos qs hq (pre ++ [u]) l h2 (fun k hk => by
    rw [usR_snoc]
    have := h0 k hk
    by_cases e : u.req = k
    ·rw [if_pos e]; rw [e] at d; simp at d; simp; omega
    ·rw [if_neg e]; omega)
   rwa [List.append_assoc] at this
theorem okMgo_split (qs : List Rq) : ∀ (a b pre : List Us), okMgo qs pre (a ++ b) = (okMgo qs pre a && okMgo qs (pre ++ a) b)
 | [], b, pre => by simp [okMgo]
 | u :: a, b, pre => by simp only [List.cons_append, okMgo, okMgo_split qs a b (pre ++ [u]), List.append_assoc, Bool.and_assoc, List.nil_append]
theorem take_drop_at {α : Type} {xs : List α} {k : Nat} {x : α} (h : xs[k]? = some x) : xs.drop k = x :: xs.drop (k + 1) := by
 have hl := (List.getElem?_eq_some_iff.1 h).1
 rw [List.drop_eq_getElem_cons hl, (List.getElem?_eq_some_iff.1 h).2]
theorem sumL_le : ∀ (l : List Int) (c : Int), (∀ x ∈ l, 0 ≤ x ∧ x ≤ c) → 0 ≤ sumL l ∧ sumL l ≤ c * (l.length : Int)
 | [], c, _ => by simp [sumL]
 | x :: l, c, h => by
   obtain ⟨a, b⟩ := sumL_le l c (fun y hy => h y (List.mem_cons_of_mem _ hy))
   have := h x (List.mem_cons_self ..)
   have e : c * ((x :: l).length : Int) = c * l.length + c := by simp [Int.mul_add]
   rw [e]
   simp only [sumL]
   omega
theorem usR_nonneg (k : Int) : ∀ l : List Us, (∀ u ∈ l, 1 ≤ u.credits) → 0 ≤ usR k l
 | [], _ => by simp [usR]
 | u :: l, h => by
   have h1 := usR_nonneg k l (fun v hv => h v (List.mem_cons_of_mem _ hv))
   have h2 := h u (List.mem_cons_self ..)
   simp only [usR]; split <;> omega
theorem okMgo_credits (qs : List Rq) : ∀ (us pre : List Us), okMgo qs pre us = true → ∀ u ∈ us, 1 ≤ u.credits
 | [], _, _ => by simp
 | u :: l, pre, h => by
   simp only [okMgo, Bool.and_eq_true] at h
   intro v hv
   rcases List.mem_cons.1 hv with rfl | hv
   ·exact ((okM_iff _ _ _).1 h.1).2.2.1
   ·exact okMgo_credits qs l _ h.2 v hv
theorem rest_bd {qs : List Rq} (hq : ∀ q ∈ qs, 1 ≤ q.credits ∧ q.credits ≤ 10000) {pre : List Us} (h : okMgo qs [] pre = true) {k : Nat} (hk : k < qs.length) : 0 ≤ (qs.getD k default).credits - usR k pre ∧ (qs.getD k default).credits - usR k pre ≤ 10000 ∧ 0 ≤ usR k pre ∧ (qs.getD k default).credits ≤ 10000 := by
 have h1 := rest_pos qs (fun q hq' => (hq q hq').1) [] pre h (fun j hj => by
  have := hq _ (List.getElem_mem hj)
  simp [usR, List.getD_eq_getElem?_getD, List.getElem?_eq_getElem hj]; omega) k hk
 have h2 := usR_nonneg k pre (okMgo_credits qs pre [] h)
 have h3 : (qs.getD k default).credits ≤ 10000 := by
  have := hq _ (List.getElem_mem hk)
  simp [List.getD_eq_getElem?_getD, List.getElem?_eq_getElem hk]; omega
 simp only [List.nil_append] at h1
 omega
end Go.Proofs.YtalmbigebjbaoaaGreatDoor
