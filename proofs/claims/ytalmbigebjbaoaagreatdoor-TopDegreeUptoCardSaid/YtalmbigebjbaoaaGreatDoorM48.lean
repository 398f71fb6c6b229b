/- TopDegree, what its proof leans on: the texts TqD, TqE. -/
import Derived.Test.YtalmbigebjbaoaaGreatDoorM47
import Derived.Test.YtalmbigebjbaoaaGreatDoorM44
import Derived.Test.YtalmbigebjbaoaaGreatDoorM24
import Derived.Test.YtalmbigebjbaoaaGreatDoorM13
import Derived.Deep.Cut
import Derived.BigQuiet
namespace Go.Proofs.YtalmbigebjbaoaaGreatDoor
open Go.RowKit Go.Shelf
set_option linter.unusedSimpArgs false
set_option linter.unusedVariables false
theorem newFr_ext {fs : List Fc} {term known : Int} {fr : List Int} (h : ∀ c ∈ fr, inB c 0 4095 = true) : newFr fs term known fr = extFr fs term known fr := by
 unfold newFr extFr
 refine cmpL_setL _ (fun x hx => ?_)
 obtain ⟨c, hc, hx⟩ := List.mem_flatMap.1 hx
 exact eqF_in fs c term known (h c hc) x hx
theorem good_fr {p : Pg} (h : goodP p = true) : ∀ q ∈ p.reqs, ∀ c ∈ q.fr, inB c 0 4095 = true := by
 intro q hq c hc
 unfold goodP at h
 simp only [Bool.and_eq_true, Bool.not_eq_true', List.any_eq_false] at h
 obtain ⟨_, _, _, _, _, _, h7⟩ := h
 have h1 := h7 q hq
 simp only [goodQ, Bool.not_eq_false, Bool.and_eq_true, Bool.not_eq_true', List.any_eq_false] at h1
 have h2 := h1.2.2 c hc
 simpa using h2
theorem wide_ext {fs : List Fc} {term known : Int} {p : Pg} (h : goodP p = true) : wideP fs term known p = extP fs term known p := by
 have h2 : p.reqs.map (fun q => ({ q with fr := newFr fs term known q.fr } : Rq)) = p.reqs.map (fun q => ({ q with fr := extFr fs term known q.fr } : Rq)) := List.map_congr_left (fun q hq => congrArg (fun f => ({ q with fr := f } : Rq)) (newFr_ext (good_fr h q hq)))
 exact congrArg (fun l => ({ p with reqs := l } : Pg)) h2
def oneP : Pg := ⟨⟨#[]⟩, 0, 1, 0, ⟨0, 1⟩, [⟨5, 1, false, [3]⟩]⟩
def oneL : List At := [⟨3, 0, 2, 0, 4⟩]
theorem one_i64 : oneP.mean.i64 := ⟨⟨by decide, by decide⟩, ⟨by decide, by decide⟩⟩
theorem one_asked : askedE oneP oneL = 0 := by decide +kernel
theorem one_audit : auditE oneP oneL [⟨0, 0, 4⟩] 1 [true, false, false, false] = 0 := by decide +kernel
theorem one_miss {us : List Us} {M : Int} {cs : List Bool} (h : auditE oneP oneL us M cs = 0) : M = 1 := audit_unique h one_audit
theorem one_uses {us : List Us} {M : Int} (h : UOk oneP oneL us) (hM : M = totR oneP.reqs - usT us) (h1 : M = 1) : us.length = 1 := by
 have ht : totR oneP.reqs = 5 := by decide +kernel
 rw [ht] at hM
 match us, h, hM with
 | [], _, hM => simp [usT] at hM; omega
 | [u], _, _ => rfl
 | u :: v :: r, h, _ =>
   exfalso
   have ho := (List.pairwise_cons.1 h.ord).1 v (List.mem_cons_self ..)
   have h1 := h.one u (List.mem_cons_self ..)
   have h2 := h.one v (List.mem_cons_of_mem _ (List.mem_cons_self ..))
   simp only [oneP, oneL, List.length_cons, List.length_nil] at h1 h2
   unfold lexlt at ho
   omega
theorem one_less {us : List Us} {cs : List Bool} (h : auditE oneP oneL us 1 cs = 0) : auditE oneP oneL us 0 cs = 200 := audit_other h (by decide)
theorem low3 (x : Int) : 0 ≤ bits .and .i64 x 7 ∧ bits .and .i64 x 7 ≤ 7 := by
 have h1 : (BitVec.ofInt 64 x &&& BitVec.ofInt 64 7).toNat ≤ 7 := by
  rw [BitVec.toNat_and]
  exact Nat.le_trans Nat.and_le_right (by decide)
 have h2 : bits .and .i64 x 7 = IntKind.i64.wrap ((BitVec.ofInt 64 x &&& BitVec.ofInt 64 7).toNat : Int) := rfl
 rw [h2, IntWalk.i64_in _ ⟨by omega, by omega⟩]
 omega
def everyB : Nat → Prop := fun _ => True
theorem Rqs.mono_ {w : World} {P Q : Nat → Prop} {s : Sl} {qs : List Rq} (h : Rqs w P s qs) (hq : ∀ b, P b → Q b) : Rqs w Q s qs := by
 obtain ⟨hs, h1, h2, h3⟩ := h
 exact ⟨hs, h1.mono hq, h2, fun i a q e1 e2 => by obtain ⟨x, y, z, t⟩ := h3 i a q e1 e2; exact ⟨x, y, z, t.mono hq⟩⟩
theorem SlR.litx {α : Type} {en : α → List Value} {sz : Nat} (hen : ∀ y, (en y).length = sz) (w : World) (xs : List α) (cs : Array Value) (t : TypeId) (hcs : cs.toList = xs.flatMap en) (hm : xs.length ≤ maxLen) (n : Nat) (hn : n = xs.length) :
 SlR (w.alloc (.cells cs t)) everyB sz en ⟨some ⟨w.heap.size, 0, none⟩, n, n⟩ xs := by
 subst hn
 refine ⟨rfl, Nat.le_refl _, hm, (fun h => by cases h), ?_, fun _ _ _ => trivial⟩
 have h := reads_new w sz en xs cs t (fun i x j v hi hj => by
  rw [← Array.getElem?_toList, hcs]
  exact flat_get hen xs i x j v hi hj)
 exact h.more (by simp)
set_option maxRecDepth 100000 in
set_option maxHeartbeats 4000000 in
theorem topSane_any (w : World) :
 Calls Tryz.prog 4 #[] w fun e w' => e = .returned (.bool true) ∧ Below w.heap.size w w' := by
 go_enter Tryz.func4, Tryz.ntmps4
 go_wp2_with fail
 obtain ⟨W1, hW1⟩ : ∃ X, X = ((((w.alloc (.cells #[.int .i64 3] 3)).alloc (.cells #[.string ⟨#[]⟩, .int .i64 5, .int .i64 1, .bool false, .slice none 0 0, .slice (some ⟨w.heap.size, 0, none⟩) 1 1] 67)).alloc (.cells #[.string ⟨#[]⟩, .int .i64 0, .int .i64 1, .int .i64 0, .int .i64 0, .int .i64 1, .slice (some ⟨w.heap.size + 1, 0, none⟩) 1 1] 44)).alloc (.cells #[.int .i64 3, .int .i64 0, .int .i64 2, .int .i64 0, .int .i64 4] 69)) := ⟨_, rfl⟩
 have hb1 : Below w.heap.size w W1 := by
  rw [hW1]
  exact ((((Below.refl _ w).alloc (Nat.le_refl _) _).alloc (by simp) _).alloc (by simp; omega) _).alloc (by simp; omega) _
 have hx1 : Bx W1 (w.heap.size + 1 + 1) [.string ⟨#[]⟩, .int .i64 0, .int .i64 1, .int .i64 0, .int .i64 0, .int .i64 1, .slice (some ⟨w.heap.size + 1, 0, none⟩) 1 1] := by
  rw [hW1]
  exact (Bx.at_ _ [.string ⟨#[]⟩, .int .i64 0, .int .i64 1, .int .i64 0, .int .i64 0, .int .i64 1, .slice (some ⟨w.heap.size + 1, 0, none⟩) 1 1] _ _ (by simp)).alloc _
 have hr1 : Rqs W1 everyB ⟨some ⟨w.heap.size + 1, 0, none⟩, 1, 1⟩ oneP.reqs := by
  refine ⟨[⟨⟨#[]⟩, 5, 1, false, ⟨none, 0, 0⟩, ⟨some ⟨w.heap.size, 0, none⟩, 1, 1⟩⟩], ?_, rfl, fun i h q h1 h2 => ?_⟩
  ·have h := SlR.litx RqH.enc_len (w.alloc (.cells #[.int .i64 3] 3)) [(⟨⟨#[]⟩, 5, 1, false, ⟨none, 0, 0⟩, ⟨some ⟨w.heap.size, 0, none⟩, 1, 1⟩⟩ : RqH)] #[.string ⟨#[]⟩, .int .i64 5, .int .i64 1, .bool false, .slice none 0 0, .slice (some ⟨w.heap.size, 0, none⟩) 1 1] 67 rfl (by show 1 ≤ maxLen; decide) 1 rfl
   rw [hW1]
   have h2 := (h.step ((Below.refl _ _).alloc (Nat.le_refl _) (.cells #[.string ⟨#[]⟩, .int .i64 0, .int .i64 1, .int .i64 0, .int .i64 0, .int .i64 1, .slice (some ⟨w.heap.size + 1, 0, none⟩) 1 1] 44))).step ((Below.refl _ _).alloc (Nat.le_refl _) (.cells #[.int .i64 3, .int .i64 0, .int .i64 2, .int .i64 0, .int .i64 4] 69))
   simpa using h2
  ·cases i with
   | zero =>
     simp [oneP] at h1 h2
     subst h1 h2
     refine ⟨rfl, rfl, rfl, ?_⟩
     have h := SlR.litx (en := intE) (sz := 1) (fun _ => rfl) w [3] #[.int .i64 3] 3 rfl (by decide) 1 rfl
     rw [hW1]
     exact ((h.step ((Below.refl _ _).alloc (Nat.le_refl _) _)).step ((Below.refl _ _).alloc (Nat.le_refl _) _)).step ((Below.refl _ _).alloc (Nat.le_refl _) _)
   | succ i => simp at h1
 have hl1 : SlR W1 everyB 5 At.enc ⟨some ⟨w.heap.size + 1 + 1 + 1, 0, none⟩, 1, 1⟩ oneL := by
  rw [hW1]
  have h := SlR.litx At.enc_len (((w.alloc (.cells #[.int .i64 3] 3)).alloc (.cells #[.string ⟨#[]⟩, .int .i64 5, .int .i64 1, .bool false, .slice none 0 0, .slice (some ⟨w.heap.size, 0, none⟩) 1 1] 67)).alloc (.cells #[.string ⟨#[]⟩, .int .i64 0, .int .i64 1, .int .i64 0, .int .i64 0, .int .i64 1, .slice (some ⟨w.heap.size + 1, 0, none⟩) 1 1] 44)) oneL #[.int .i64 3, .int .i64 0, .int .i64 2, .int .i64 0, .int .i64 4] 69 rfl (by show 1 ≤ maxLen; decide) 1 rfl
  simpa using h
 have hau := Audit_any (P := everyB) oneP ⟨some ⟨w.heap.size + 1, 0, none⟩, 1, 1⟩ oneL (some ⟨w.heap.size + 1 + 1 + 1, 0, none⟩) 1 W1 hr1 one_i64 hl1 (by decide) (by decide +kernel) one_asked
 have hck := fun (us : List Us) (D : Option Addr) (dd : Nat) (M : Int) (cs : List Bool) (C : Option Addr) (cc : Nat) (W : World) (hb : Below W1.heap.size W1 W) (hu : Reads W W.heap.size D 3 Us.enc us) (hc : SlR W everyB 1 boolE ⟨C, cs.length, cc⟩ cs) (hul : us.length ≤ 100000) => ProCheck_any (P := everyB) oneP ⟨some ⟨w.heap.size + 1, 0, none⟩, 1, 1⟩ oneL (some ⟨w.heap.size + 1 + 1 + 1, 0, none⟩) 1 us D dd M cs C cc W (hr1.step hb) one_i64 (hl1.step hb) hu hc (by decide) hul
 obtain ⟨p1, p2, p3⟩ : (pgV oneP ⟨some ⟨w.heap.size + 1, 0, none⟩, 1, 1⟩ = .agg #[.string ⟨#[]⟩, .int .i64 0, .int .i64 1, .int .i64 0, .int .i64 0, .int .i64 1, .slice (some ⟨w.heap.size + 1, 0, none⟩) 1 1]) ∧ oneL.length = 1 ∧ True := ⟨rfl, rfl, trivial⟩
 rw [p1, p2] at hau
 simp only [p1, p2] at hck
 unfold auV at hau hck
 simp only at hau hck
 have HAU := Lib.hid hau
 have HCK := Lib.hid hck
 have HB := Lib.hid hb1
 have HX := Lib.hid hx1
 rw [← hW1]
 clear hW1 hau hck hb1 hx1 hr1 hl1 p1 p2 p3
 refine HAU.out.mono ?_
 rintro e w2 ⟨⟨us, M, cs, D, C, dd, cc, rfl, huo, hae, hM, hul, hus, hcs⟩, hb2⟩
 obtain rfl : M = 1 := one_miss hae
 have hu1 := one_uses huo hM rfl
 have hE0 := one_less hae
 have HAE := Lib.hid hae
 have HE0 := Lib.hid hE0
 have HUS := Lib.hid (hus.mono (Q := everyB) (fun _ _ => trivial))
 have HCS := Lib.hid (hcs.mono (Q := everyB) (fun _ _ => trivial))
 have HUL := Lib.hid hul
 have HB2 := Lib.hid hb2
 have HU1 := Lib.hid hu1
 clear huo hM hae hE0 hus hcs hul hb2 hu1
 rw [HU1.out]
 have hS1 : ∀ W, Below w2.heap.size w2 W → Calls Tryz.prog 14 #[.agg #[.string ⟨#[]⟩, .int .i64 0, .int .i64 1, .int .i64 0, .int .i64 0, .int .i64 1, .slice (some ⟨w.heap.size + 1, 0, none⟩) 1 1], .slice (some ⟨w.heap.size + 1 + 1 + 1, 0, none⟩) 1 1, .agg #[.slice D 1 dd, .int .i64 1, .slice C cs.length cc]] W fun e w' => e = .returned (.int .i64 0) ∧ Below W.heap.size W w' := fun W hb => by
  have h := HCK.out us D dd 1 cs C cc W (HB2.out.trans (hb.mono HB2.out.size)) (HUS.out.step hb).reads (HCS.out.step hb) (by have := HUL.out; omega)
  rw [HAE.out, HU1.out] at h
  exact h
 have hS0 : ∀ W, Below w2.heap.size w2 W → Calls Tryz.prog 14 #[.agg #[.string ⟨#[]⟩, .int .i64 0, .int .i64 1, .int .i64 0, .int .i64 0, .int .i64 1, .slice (some ⟨w.heap.size + 1, 0, none⟩) 1 1], .slice (some ⟨w.heap.size + 1 + 1 + 1, 0, none⟩) 1 1, .agg #[.slice D 1 dd, .int .i64 0, .slice C cs.length cc]] W fun e w' => e = .returned (.int .i64 200) ∧ Below W.heap.size W w' := fun W hb => by
  have h := HCK.out us D dd 0 cs C cc W (HB2.out.trans (hb.mono HB2.out.size)) (HUS.out.step hb).reads (HCS.out.step hb) (by have := HUL.out; omega)
  rw [HE0.out, HU1.out] at h
  exact h
 have HS1 := Lib.hid hS1
 have HS0 := Lib.hid hS0
 have HX2 := Lib.hid (HX.out.step HB2.out)
 have HW2 := Lib.hid (HB.out.trans (HB2.out.mono HB.out.size))
 clear hS1 hS0 HCK HAU
 go_upto_region 4 with fail
 obtain ⟨bX, hbX⟩ : ∃ b, b = w2.heap.size := ⟨_, rfl⟩
 obtain ⟨W3, hW3⟩ : ∃ X, X = w2.alloc (.cells #[.slice D 1 dd, .int .i64 1, .slice C cs.length cc] 35) := ⟨_, rfl⟩
 have hst : Below w2.heap.size w2 W3 := by rw [hW3]; exact (Below.refl _ _).alloc (Nat.le_refl _) _
 have GX : Hid (Bx W3 bX [.slice D 1 dd, .int .i64 1, .slice C cs.length cc]) := Lib.hid (by rw [hW3, hbX]; exact Bx.new w2 [.slice D 1 dd, .int .i64 1, .slice C cs.length cc] _)
 have GP := Lib.hid (HX2.out.step hst)
 have GB := Lib.hid hst
 rw [← hW3]
 try rw [← hbX]
 have HBX := Lib.hid hbX
 clear hW3 hst hbX
 obtain ⟨x0, x1, x2⟩ := GX.out
 have s0 := x0 0 _ rfl
 have s1 := x0 1 _ rfl
 have s2 := x0 2 _ rfl
 clear x0 x1
 go_upto_region 5 with fail
 obtain ⟨bY, hbY⟩ : ∃ b, b = W3.heap.size := ⟨_, rfl⟩
 obtain ⟨W4, hW4⟩ : ∃ X, X = W3.alloc (.cells #[.slice D 1 dd, .int .i64 1, .slice C cs.length cc] 35) := ⟨_, rfl⟩
 have hst : Below W3.heap.size W3 W4 := by rw [hW4]; exact (Below.refl _ _).alloc (Nat.le_refl _) _
 have GY : Hid (Bx W4 bY [.slice D 1 dd, .int .i64 1, .slice C cs.length cc]) := Lib.hid (by rw [hW4, hbY]; exact Bx.new W3 [.slice D 1 dd, .int .i64 1, .slice C cs.length cc] _)
 have HXY : Hid (bX < bY) := Lib.hid (by rw [hbY]; exact x2)
 have HPY : Hid (w.heap.size + 1 + 1 < bY) := Lib.hid (by rw [hbY]; exact GP.out.2.2)
 have HYZ : Hid (w2.heap.size ≤ bY) := Lib.hid (by rw [hbY]; exact GB.out.size)
 have GX := Lib.hid (GX.out.step hst)
 have GP := Lib.hid (GP.out.step hst)
 have GB := Lib.hid (GB.out.trans (hst.mono GB.out.size))
 rw [← hW4]
 try rw [← hbY]
 clear hW4 hst hbY s0 s1 s2 x2
 obtain ⟨y0, y1, y2⟩ := GY.out
 have s1 := y0 1 _ rfl
 have f1 := y1 1
 clear y0 y1
 go_upto_region 6 with fail
 obtain ⟨W5, hW5⟩ : ∃ X, X = W4.setCell ⟨bY, 1, none⟩ (.int .i64 0) := ⟨_, rfl⟩
 have GY : Hid (Bx W5 bY [.slice D 1 dd, .int .i64 0, .slice C cs.length cc]) := Lib.hid (by rw [hW5]; exact GY.out.setAt (i := 1) (by simp) _)
 have GX : Hid (Bx W5 bX [.slice D 1 dd, .int .i64 1, .slice C cs.length cc]) := Lib.hid (by rw [hW5]; exact GX.out.farC (by have := HXY.out; show bX ≠ bY; omega) _)
 have GP : Hid (Bx W5 (w.heap.size + 1 + 1) [.string ⟨#[]⟩, .int .i64 0, .int .i64 1, .int .i64 0, .int .i64 0, .int .i64 1, .slice (some ⟨w.heap.size + 1, 0, none⟩) 1 1]) := Lib.hid (by rw [hW5]; exact GP.out.farC (by have := HPY.out; show w.heap.size + 1 + 1 ≠ bY; omega) _)
 have GB : Hid (Below w2.heap.size w2 W5) := Lib.hid (by rw [hW5]; exact GB.out.setCell HYZ.out _)
 rw [← hW5]
 clear hW5 s1 f1 y2
 obtain ⟨x0, x1, x2⟩ := GX.out
 have s0 := x0 0 _ rfl
 have s1 := x0 1 _ rfl
 have s2 := x0 2 _ rfl
 obtain ⟨p0, p1, p2⟩ := GP.out
 have q0 := p0 0 _ rfl
 have q1 := p0 1 _ rfl
 have q2 := p0 2 _ rfl
 have q3 := p0 3 _ rfl
 have q4 := p0 4 _ rfl
 have q5 := p0 5 _ rfl
 have q6 := p0 6 _ rfl
 clear x0 x1 p0 p1
 go_wp2_with fail
 clear s0 s1 s2 q0 q1 q2 q3 q4 q5 q6
 refine (HS1.out W5 GB.out).mono ?_
 rintro e w6 ⟨rfl, hb6⟩
 have GY := Lib.hid (GY.out.step hb6)
 have GP := Lib.hid (GP.out.step hb6)
 have GB := Lib.hid (GB.out.trans (hb6.mono GB.out.size))
 clear hb6
 obtain ⟨x0, x1, x2⟩ := GY.out
 have s0 := x0 0 _ rfl
 have s1 := x0 1 _ rfl
 have s2 := x0 2 _ rfl
 obtain ⟨p0, p1, p2⟩ := GP.out
 have q0 := p0 0 _ rfl
 have q1 := p0 1 _ rfl
 have q2 := p0 2 _ rfl
 have q3 := p0 3 _ rfl
 have q4 := p0 4 _ rfl
 have q5 := p0 5 _ rfl
 have q6 := p0 6 _ rfl
 clear x0 x1 p0 p1
 go_wp2_with fail
 clear s0 s1 s2 q0 q1 q2 q3 q4 q5 q6
 refine (HS0.out w6 GB.out).mono ?_
 rintro e w7 ⟨rfl, hb7⟩
 go_wp2_with fail
 go_ret
 exact ⟨rfl, HW2.out.trans ((GB.out.trans (hb7.mono GB.out.size)).mono HW2.out.size)⟩
end Go.Proofs.YtalmbigebjbaoaaGreatDoor
