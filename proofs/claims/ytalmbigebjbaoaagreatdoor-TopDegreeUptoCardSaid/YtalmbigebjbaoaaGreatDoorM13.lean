/- TopDegree, what its proof leans on: the texts ProO, ProW. -/
import Derived.Test.YtalmbigebjbaoaaGreatDoorM12
import Derived.Test.YtalmbigebjbaoaaGreatDoorM09
import Derived.Test.YtalmbigebjbaoaaGreatDoorM03
namespace Go.Proofs.YtalmbigebjbaoaaGreatDoor
open Go.RowKit Go.Shelf
set_option linter.unusedSimpArgs false
set_option linter.unusedVariables false
theorem okA_okM {p : Pg} {l : List At} {pre : List Us} {u : Us} (h : okA p l pre u = true) : okM p.reqs pre u = true := by
 obtain ⟨⟨_, _, h1, h2⟩, _, ⟨h3, _⟩, _, _, h4⟩ := (okA_iff _ _ _ _).1 h
 exact (okM_iff _ _ _).2 ⟨h1, h2, h3, by omega⟩
theorem okAgo_okMgo (p : Pg) (l : List At) : ∀ (us pre : List Us), okAgo p l pre us = true → okMgo p.reqs pre us = true
 | [], _, _ => rfl
 | u :: us, pre, h => by
   simp only [okAgo, okMgo, Bool.and_eq_true] at h ⊢
   exact ⟨okA_okM h.1, okAgo_okMgo p l us _ h.2⟩
theorem allow_zero {p : Pg} {l : List At} {us : List Us} (h : allowP p l us = 0) : goodP p = true ∧ (∀ a ∈ l, a.good = true) ∧ okAgo p l [] us = true ∧ askedE p l = 0 := by
 unfold allowP at h
 split at h
 ·rename_i h0
  split at h
  ·rename_i h1
   exact ⟨(asked_zero h0).1, (asked_zero h0).2, h1, h0⟩
  ·simp at h
 ·contradiction
theorem miss_of_allow {p : Pg} {l : List At} {us : List Us} (h : allowP p l us = 0) : missP p us = (totR p.reqs - usT us, 0) := by
 obtain ⟨h1, _, h3, _⟩ := allow_zero h
 unfold missP
 rw [checkP_ok h1, if_pos rfl, if_pos (okAgo_okMgo p l us [] h3)]
def auditE (p : Pg) (l : List At) (us : List Us) (M : Int) (cs : List Bool) : Int :=
 if allowP p l us = 0 then (if totR p.reqs - usT us = M then (if (boundP p l cs).2 = 0 then (if (boundP p l cs).1 = M then 0 else 200) else (boundP p l cs).2) else 200) else allowP p l us
def auV (u : Sl) (M : Int) (cv : Sl) : Value := .agg #[.slice u.a u.n u.c, .int .i64 M, .slice cv.a cv.n cv.c]
set_option maxRecDepth 100000 in
set_option maxHeartbeats 8000000 in
theorem ProCheck_any {P : Nat → Prop} (p : Pg) (s : Sl) (l : List At) (B : Option Addr) (b : Nat) (us : List Us) (D : Option Addr) (d : Nat) (M : Int) (cs : List Bool) (C : Option Addr) (cc : Nat) (w : World) (hr : Rqs w P s p.reqs) (hi : p.mean.i64) (hla : SlR w P 5 At.enc ⟨B, l.length, b⟩ l) (hx : Reads w w.heap.size D 3 Us.enc us) (hcs : SlR w P 1 boolE ⟨C, cs.length, cc⟩ cs) (hll : l.length ≤ 5000) (hlu : us.length ≤ 100000) :
 Calls Tryz.prog 14 #[pgV p s, .slice B l.length b, auV ⟨D, us.length, d⟩ M ⟨C, cs.length, cc⟩] w fun e w' => e = .returned (.int .i64 (auditE p l us M cs)) ∧ Below w.heap.size w w' := by
 have hA := Lib.hid (fun W (h : Below w.heap.size w W) => Allowed_any (P := P) p s l B b us D d W (hr.step h) hi ((hla.reads.below h).more h.size) ((hx.below h).more h.size) hll hlu)
 have hM := Lib.hid (fun W (h : Below w.heap.size w W) => Missing_any (P := P) p s us D d W (hr.step h) hi ((hx.below h).more h.size) (by omega))
 have hB := Lib.hid (fun W (h : Below w.heap.size w W) => Bound_any (P := P) p s l B b cs C cc W (hr.step h) hi (hla.step h) (hcs.step h) hll)
 have hn := hr.len
 obtain ⟨A, n, c⟩ := s
 simp only at hn
 subst hn
 clear hr hla hx hcs
 obtain ⟨E, hE⟩ : ∃ a, auditE p l us M cs = a := ⟨_, rfl⟩
 rw [hE]
 have HE := Lib.hid hE
 clear hE
 obtain ⟨E1, hE1⟩ : ∃ a, a = allowP p l us := ⟨_, rfl⟩
 rw [← hE1] at hA
 have HE1 := Lib.hid hE1
 obtain ⟨B1, B2, hB12⟩ : ∃ a b, boundP p l cs = (a, b) := ⟨_, _, rfl⟩
 rw [hB12] at hB
 have HB12 := Lib.hid hB12
 clear hE1 hB12
 unfold pgV auV at *
 simp only at hA hM hB ⊢
 by_cases h0 : E1 = 0
 rotate_left
 ·obtain rfl : E = E1 := by rw [← HE.out, HE1.out]; unfold auditE; rw [if_neg (by rw [← HE1.out]; exact h0)]
  have e1 : (E == 0) = false := by simpa using h0
  have e2 : (E != 0) = true := by simpa using h0
  clear h0
  go_enter Tryz.func14, Tryz.ntmps14
  go_wp2_with fail
  refine (hA.out _ (((Below.refl _ _).alloc (Nat.le_refl _) _).alloc (by simp) _)).mono ?_
  rintro e w2 ⟨rfl, hb2⟩
  have HBE : Hid (Below w.heap.size w w2) := Lib.hid ((((Below.refl _ _).alloc (Nat.le_refl _) _).alloc (by simp) _).trans (hb2.mono (by simp; omega)))
  have HBP := Lib.hid (((Bx.new w (pgC p ⟨A, p.reqs.length, c⟩) 44).alloc (.cells #[.slice D us.length d, .int .i64 M, .slice C cs.length cc] 35)).step hb2)
  have HBA := Lib.hid ((Bx.at_ (w.alloc (.cells #[.string p.nm, .int .i64 p.number, .int .i64 p.uses, .int .i64 p.earn, .int .i64 p.mean.num, .int .i64 p.mean.den, .slice A p.reqs.length c] 44)) [.slice D us.length d, .int .i64 M, .slice C cs.length cc] 35 (w.heap.size + 1) (by simp)).step hb2)
  clear hb2
  have p0 := HBP.out.1 0 _ rfl
  have p1 := HBP.out.1 1 _ rfl
  have p2 := HBP.out.1 2 _ rfl
  have p3 := HBP.out.1 3 _ rfl
  have p4 := HBP.out.1 4 _ rfl
  have p5 := HBP.out.1 5 _ rfl
  have p6 := HBP.out.1 6 _ rfl
  have a0 := HBA.out.1 0 _ rfl
  have a1 := HBA.out.1 1 _ rfl
  have a2 := HBA.out.1 2 _ rfl
  have pz := HBP.out.2.2
  have az := HBA.out.2.2
  go_wp2_with fail
  go_ret
  exact ⟨rfl, HBE.out⟩
 subst h0
 have HMI : Hid (missP p us = (totR p.reqs - usT us, 0)) := Lib.hid (miss_of_allow HE1.out.symm)
 obtain ⟨N, hN⟩ : ∃ N, N = totR p.reqs - usT us := ⟨_, rfl⟩
 rw [← hN] at HMI
 have HN := Lib.hid hN
 clear hN
 have hE := HE.out
 unfold auditE at hE
 rw [if_pos HE1.out.symm, ← HN.out, HB12.out] at hE
 by_cases h1 : N = M
 rotate_left
 ·rw [if_neg h1] at hE
  subst hE
  have e1 : (N == M) = false := by simpa using h1
  have e2 : (N != M) = true := by simpa using h1
  clear h1
  go_enter Tryz.func14, Tryz.ntmps14
  go_wp2_with fail
  refine (hA.out _ (((Below.refl _ _).alloc (Nat.le_refl _) _).alloc (by simp) _)).mono ?_
  rintro e w2 ⟨rfl, hb2⟩
  have HBE : Hid (Below w.heap.size w w2) := Lib.hid ((((Below.refl _ _).alloc (Nat.le_refl _) _).alloc (by simp) _).trans (hb2.mono (by simp; omega)))
  have HBP := Lib.hid (((Bx.new w (pgC p ⟨A, p.reqs.length, c⟩) 44).alloc (.cells #[.slice D us.length d, .int .i64 M, .slice C cs.length cc] 35)).step hb2)
  have HBA := Lib.hid ((Bx.at_ (w.alloc (.cells #[.string p.nm, .int .i64 p.number, .int .i64 p.uses, .int .i64 p.earn, .int .i64 p.mean.num, .int .i64 p.mean.den, .slice A p.reqs.length c] 44)) [.slice D us.length d, .int .i64 M, .slice C cs.length cc] 35 (w.heap.size + 1) (by simp)).step hb2)
  clear hb2
  have p0 := HBP.out.1 0 _ rfl
  have p1 := HBP.out.1 1 _ rfl
  have p2 := HBP.out.1 2 _ rfl
  have p3 := HBP.out.1 3 _ rfl
  have p4 := HBP.out.1 4 _ rfl
  have p5 := HBP.out.1 5 _ rfl
  have p6 := HBP.out.1 6 _ rfl
  have a0 := HBA.out.1 0 _ rfl
  have a1 := HBA.out.1 1 _ rfl
  have a2 := HBA.out.1 2 _ rfl
  have pz := HBP.out.2.2
  have az := HBA.out.2.2
  go_wp2_with fail
  refine (hM.out _ HBE.out).mono ?_
  rw [HMI.out]
  rintro e w3 ⟨rfl, hb3⟩
  have HBE := Lib.hid (HBE.out.trans (hb3.mono HBE.out.size))
  have HBP := Lib.hid (HBP.out.step hb3)
  have HBA := Lib.hid (HBA.out.step hb3)
  clear hb3
  clear p0 p1 p2 p3 p4 p5 p6 a0 a1 a2 pz az
  have p0 := HBP.out.1 0 _ rfl
  have p1 := HBP.out.1 1 _ rfl
  have p2 := HBP.out.1 2 _ rfl
  have p3 := HBP.out.1 3 _ rfl
  have p4 := HBP.out.1 4 _ rfl
  have p5 := HBP.out.1 5 _ rfl
  have p6 := HBP.out.1 6 _ rfl
  have a0 := HBA.out.1 0 _ rfl
  have a1 := HBA.out.1 1 _ rfl
  have a2 := HBA.out.1 2 _ rfl
  have pz := HBP.out.2.2
  have az := HBA.out.2.2
  go_wp2_with fail
  go_ret
  exact ⟨rfl, HBE.out⟩
 rw [if_pos h1] at hE
 have e1 : (N == M) = true := by simpa using h1
 have e2 : (N != M) = false := by simpa using h1
 clear h1
 simp only at hE
 by_cases h2 : B2 = 0
 rotate_left
 ·rw [if_neg h2] at hE
  subst hE
  have e3 : (B2 == 0) = false := by simpa using h2
  have e4 : (B2 != 0) = true := by simpa using h2
  clear h2
  go_enter Tryz.func14, Tryz.ntmps14
  go_wp2_with fail
  refine (hA.out _ (((Below.refl _ _).alloc (Nat.le_refl _) _).alloc (by simp) _)).mono ?_
  rintro e w2 ⟨rfl, hb2⟩
  have HBE : Hid (Below w.heap.size w w2) := Lib.hid ((((Below.refl _ _).alloc (Nat.le_refl _) _).alloc (by simp) _).trans (hb2.mono (by simp; omega)))
  have HBP := Lib.hid (((Bx.new w (pgC p ⟨A, p.reqs.length, c⟩) 44).alloc (.cells #[.slice D us.length d, .int .i64 M, .slice C cs.length cc] 35)).step hb2)
  have HBA := Lib.hid ((Bx.at_ (w.alloc (.cells #[.string p.nm, .int .i64 p.number, .int .i64 p.uses, .int .i64 p.earn, .int .i64 p.mean.num, .int .i64 p.mean.den, .slice A p.reqs.length c] 44)) [.slice D us.length d, .int .i64 M, .slice C cs.length cc] 35 (w.heap.size + 1) (by simp)).step hb2)
  clear hb2
  have p0 := HBP.out.1 0 _ rfl
  have p1 := HBP.out.1 1 _ rfl
  have p2 := HBP.out.1 2 _ rfl
  have p3 := HBP.out.1 3 _ rfl
  have p4 := HBP.out.1 4 _ rfl
  have p5 := HBP.out.1 5 _ rfl
  have p6 := HBP.out.1 6 _ rfl
  have a0 := HBA.out.1 0 _ rfl
  have a1 := HBA.out.1 1 _ rfl
  have a2 := HBA.out.1 2 _ rfl
  have pz := HBP.out.2.2
  have az := HBA.out.2.2
  go_wp2_with fail
  refine (hM.out _ HBE.out).mono ?_
  rw [HMI.out]
  rintro e w3 ⟨rfl, hb3⟩
  have HBE := Lib.hid (HBE.out.trans (hb3.mono HBE.out.size))
  have HBP := Lib.hid (HBP.out.step hb3)
  have HBA := Lib.hid (HBA.out.step hb3)
  clear hb3
  clear p0 p1 p2 p3 p4 p5 p6 a0 a1 a2 pz az
  have p0 := HBP.out.1 0 _ rfl
  have p1 := HBP.out.1 1 _ rfl
  have p2 := HBP.out.1 2 _ rfl
  have p3 := HBP.out.1 3 _ rfl
  have p4 := HBP.out.1 4 _ rfl
  have p5 := HBP.out.1 5 _ rfl
  have p6 := HBP.out.1 6 _ rfl
  have a0 := HBA.out.1 0 _ rfl
  have a1 := HBA.out.1 1 _ rfl
  have a2 := HBA.out.1 2 _ rfl
  have pz := HBP.out.2.2
  have az := HBA.out.2.2
  go_wp2_with fail
  refine (hB.out _ HBE.out).mono ?_
  rintro e w4 ⟨rfl, hb4⟩
  have HBE := Lib.hid (HBE.out.trans (hb4.mono HBE.out.size))
  have HBP := Lib.hid (HBP.out.step hb4)
  have HBA := Lib.hid (HBA.out.step hb4)
  clear hb4
  clear p0 p1 p2 p3 p4 p5 p6 a0 a1 a2 pz az
  have p0 := HBP.out.1 0 _ rfl
  have p1 := HBP.out.1 1 _ rfl
  have p2 := HBP.out.1 2 _ rfl
  have p3 := HBP.out.1 3 _ rfl
  have p4 := HBP.out.1 4 _ rfl
  have p5 := HBP.out.1 5 _ rfl
  have p6 := HBP.out.1 6 _ rfl
  have a0 := HBA.out.1 0 _ rfl
  have a1 := HBA.out.1 1 _ rfl
  have a2 := HBA.out.1 2 _ rfl
  have pz := HBP.out.2.2
  have az := HBA.out.2.2
  go_wp2_with fail
  go_ret
  exact ⟨rfl, HBE.out⟩
 rw [if_pos h2] at hE
 subst h2
 by_cases h3 : B1 = M
 ·rw [if_pos h3] at hE
  subst hE
  have e3 : (B1 == M) = true := by simpa using h3
  have e4 : (B1 != M) = false := by simpa using h3
  clear h3
  go_enter Tryz.func14, Tryz.ntmps14
  go_wp2_with fail
  refine (hA.out _ (((Below.refl _ _).alloc (Nat.le_refl _) _).alloc (by simp) _)).mono ?_
  rintro e w2 ⟨rfl, hb2⟩
  have HBE : Hid (Below w.heap.size w w2) := Lib.hid ((((Below.refl _ _).alloc (Nat.le_refl _) _).alloc (by simp) _).trans (hb2.mono (by simp; omega)))
  have HBP := Lib.hid (((Bx.new w (pgC p ⟨A, p.reqs.length, c⟩) 44).alloc (.cells #[.slice D us.length d, .int .i64 M, .slice C cs.length cc] 35)).step hb2)
  have HBA := Lib.hid ((Bx.at_ (w.alloc (.cells #[.string p.nm, .int .i64 p.number, .int .i64 p.uses, .int .i64 p.earn, .int .i64 p.mean.num, .int .i64 p.mean.den, .slice A p.reqs.length c] 44)) [.slice D us.length d, .int .i64 M, .slice C cs.length cc] 35 (w.heap.size + 1) (by simp)).step hb2)
  clear hb2
  have p0 := HBP.out.1 0 _ rfl
  have p1 := HBP.out.1 1 _ rfl
  have p2 := HBP.out.1 2 _ rfl
  have p3 := HBP.out.1 3 _ rfl
  have p4 := HBP.out.1 4 _ rfl
  have p5 := HBP.out.1 5 _ rfl
  have p6 := HBP.out.1 6 _ rfl
  have a0 := HBA.out.1 0 _ rfl
  have a1 := HBA.out.1 1 _ rfl
  have a2 := HBA.out.1 2 _ rfl
  have pz := HBP.out.2.2
  have az := HBA.out.2.2
  go_wp2_with fail
  refine (hM.out _ HBE.out).mono ?_
  rw [HMI.out]
  rintro e w3 ⟨rfl, hb3⟩
  have HBE := Lib.hid (HBE.out.trans (hb3.mono HBE.out.size))
  have HBP := Lib.hid (HBP.out.step hb3)
  have HBA := Lib.hid (HBA.out.step hb3)
  clear hb3
  clear p0 p1 p2 p3 p4 p5 p6 a0 a1 a2 pz az
  have p0 := HBP.out.1 0 _ rfl
  have p1 := HBP.out.1 1 _ rfl
  have p2 := HBP.out.1 2 _ rfl
  have p3 := HBP.out.1 3 _ rfl
  have p4 := HBP.out.1 4 _ rfl
  have p5 := HBP.out.1 5 _ rfl
  have p6 := HBP.out.1 6 _ rfl
  have a0 := HBA.out.1 0 _ rfl
  have a1 := HBA.out.1 1 _ rfl
  have a2 := HBA.out.1 2 _ rfl
  have pz := HBP.out.2.2
  have az := HBA.out.2.2
  go_wp2_with fail
  refine (hB.out _ HBE.out).mono ?_
  rintro e w4 ⟨rfl, hb4⟩
  have HBE := Lib.hid (HBE.out.trans (hb4.mono HBE.out.size))
  have HBP := Lib.hid (HBP.out.step hb4)
  have HBA := Lib.hid (HBA.out.step hb4)
  clear hb4
  clear p0 p1 p2 p3 p4 p5 p6 a0 a1 a2 pz az
  have p0 := HBP.out.1 0 _ rfl
  have p1 := HBP.out.1 1 _ rfl
  have p2 := HBP.out.1 2 _ rfl
  have p3 := HBP.out.1 3 _ rfl
  have p4 := HBP.out.1 4 _ rfl
  have p5 := HBP.out.1 5 _ rfl
  have p6 := HBP.out.1 6 _ rfl
  have a0 := HBA.out.1 0 _ rfl
  have a1 := HBA.out.1 1 _ rfl
  have a2 := HBA.out.1 2 _ rfl
  have pz := HBP.out.2.2
  have az := HBA.out.2.2
  go_wp2_with fail
  go_ret
  exact ⟨rfl, HBE.out⟩
 ·rw [if_neg h3] at hE
  subst hE
  have e3 : (B1 == M) = false := by simpa using h3
  have e4 : (B1 != M) = true := by simpa using h3
  clear h3
  go_enter Tryz.func14, Tryz.ntmps14
  go_wp2_with fail
  refine (hA.out _ (((Below.refl _ _).alloc (Nat.le_refl _) _).alloc (by simp) _)).mono ?_
  rintro e w2 ⟨rfl, hb2⟩
  have HBE : Hid (Below w.heap.size w w2) := Lib.hid ((((Below.refl _ _).alloc (Nat.le_refl _) _).alloc (by simp) _).trans (hb2.mono (by simp; omega)))
  have HBP := Lib.hid (((Bx.new w (pgC p ⟨A, p.reqs.length, c⟩) 44).alloc (.cells #[.slice D us.length d, .int .i64 M, .slice C cs.length cc] 35)).step hb2)
  have HBA := Lib.hid ((Bx.at_ (w.alloc (.cells #[.string p.nm, .int .i64 p.number, .int .i64 p.uses, .int .i64 p.earn, .int .i64 p.mean.num, .int .i64 p.mean.den, .slice A p.reqs.length c] 44)) [.slice D us.length d, .int .i64 M, .slice C cs.length cc] 35 (w.heap.size + 1) (by simp)).step hb2)
  clear hb2
  have p0 := HBP.out.1 0 _ rfl
  have p1 := HBP.out.1 1 _ rfl
  have p2 := HBP.out.1 2 _ rfl
  have p3 := HBP.out.1 3 _ rfl
  have p4 := HBP.out.1 4 _ rfl
  have p5 := HBP.out.1 5 _ rfl
  have p6 := HBP.out.1 6 _ rfl
  have a0 := HBA.out.1 0 _ rfl
  have a1 := HBA.out.1 1 _ rfl
  have a2 := HBA.out.1 2 _ rfl
  have pz := HBP.out.2.2
  have az := HBA.out.2.2
  go_wp2_with fail
  refine (hM.out _ HBE.out).mono ?_
  rw [HMI.out]
  rintro e w3 ⟨rfl, hb3⟩
  have HBE := Lib.hid (HBE.out.trans (hb3.mono HBE.out.size))
  have HBP := Lib.hid (HBP.out.step hb3)
  have HBA := Lib.hid (HBA.out.step hb3)
  clear hb3
  clear p0 p1 p2 p3 p4 p5 p6 a0 a1 a2 pz az
  have p0 := HBP.out.1 0 _ rfl
  have p1 := HBP.out.1 1 _ rfl
  have p2 := HBP.out.1 2 _ rfl
  have p3 := HBP.out.1 3 _ rfl
  have p4 := HBP.out.1 4 _ rfl
  have p5 := HBP.out.1 5 _ rfl
  have p6 := HBP.out.1 6 _ rfl
  have a0 := HBA.out.1 0 _ rfl
  have a1 := HBA.out.1 1 _ rfl
  have a2 := HBA.out.1 2 _ rfl
  have pz := HBP.out.2.2
  have az := HBA.out.2.2
  go_wp2_with fail
  refine (hB.out _ HBE.out).mono ?_
  rintro e w4 ⟨rfl, hb4⟩
  have HBE := Lib.hid (HBE.out.trans (hb4.mono HBE.out.size))
  have HBP := Lib.hid (HBP.out.step hb4)
  have HBA := Lib.hid (HBA.out.step hb4)
  clear hb4
  clear p0 p1 p2 p3 p4 p5 p6 a0 a1 a2 pz az
  have p0 := HBP.out.1 0 _ rfl
  have p1 := HBP.out.1 1 _ rfl
  have p2 := HBP.out.1 2 _ rfl
  have p3 := HBP.out.1 3 _ rfl
  have p4 := HBP.out.1 4 _ rfl
  have p5 := HBP.out.1 5 _ rfl
  have p6 := HBP.out.1 6 _ rfl
  have a0 := HBA.out.1 0 _ rfl
  have a1 := HBA.out.1 1 _ rfl
  have a2 := HBA.out.1 2 _ rfl
  have pz := HBP.out.2.2
  have az := HBA.out.2.2
  go_wp2_with fail
  go_ret
  exact ⟨rfl, HBE.out⟩
end Go.Proofs.YtalmbigebjbaoaaGreatDoor
namespace Go.Proofs.YtalmbigebjbaoaaGreatDoor
set_option linter.unusedSimpArgs false
set_option linter.unusedVariables false
def usP (i k : Int) : List Us → Int
 | [] => 0
 | u :: l => (if u.att = i ∧ u.req = k then u.credits else 0) + usP i k l
theorem usP_snoc (i k : Int) (u : Us) : ∀ l, usP i k (l ++ [u]) = usP i k l + (if u.att = i ∧ u.req = k then u.credits else 0)
 | [] => by simp [usP]
 | y :: l => by simp only [List.cons_append, usP, usP_snoc i k u l]; omega
theorem usP_zero {i k : Int} : ∀ {l : List Us}, (∀ v ∈ l, ¬ (v.att = i ∧ v.req = k)) → usP i k l = 0
 | [], _ => rfl
 | u :: l, h => by
   simp only [usP]
   rw [if_neg (h u (List.mem_cons_self ..)), usP_zero (fun v hv => h v (List.mem_cons_of_mem _ hv))]
   rfl
theorem usP_nonneg (i k : Int) : ∀ {l : List Us}, (∀ v ∈ l, 1 ≤ v.credits) → 0 ≤ usP i k l
 | [], _ => by simp [usP]
 | u :: l, h => by
   have h1 := usP_nonneg i k (l := l) (fun v hv => h v (List.mem_cons_of_mem _ hv))
   have h2 := h u (List.mem_cons_self ..)
   simp only [usP]; split <;> omega
theorem usP_row {i : Int} {r : Nat} : ∀ {l : List Us}, (∀ v ∈ l, 0 ≤ v.req ∧ v.req < (r : Int)) → sumN r (fun k => usP i k l) = usA i l
 | [], _ => by simp only [usP, usA]; exact sumN_zero r
 | u :: l, h => by
   have ih := usP_row (i := i) (r := r) (l := l) (fun v hv => h v (List.mem_cons_of_mem _ hv))
   obtain ⟨h1, h2⟩ := h u (List.mem_cons_self ..)
   obtain ⟨kq, hk⟩ : ∃ n : Nat, u.req = n := ⟨u.req.toNat, by omega⟩
   simp only [usP, usA]
   rw [sumN_add, ih]
   congr 1
   by_cases e : u.att = i
   ·rw [if_pos e]
    have hs : sumN r (fun k => if u.att = i ∧ u.req = (k : Int) then u.credits else 0) = sumN r (fun k => if k = kq then u.credits else 0) := sumN_congr (fun k hk' => by
     by_cases e2 : k = kq
     ·subst e2; rw [if_pos ⟨e, hk⟩, if_pos rfl]
     ·rw [if_neg (fun x => e2 (by have := x.2; omega)), if_neg e2])
    rw [hs, sumN_one (by omega)]
   ·rw [if_neg e]
    have hs : sumN r (fun k => if u.att = i ∧ u.req = (k : Int) then u.credits else 0) = sumN r (fun _ => 0) := sumN_congr (fun k hk' => if_neg (fun x => e x.1))
    rw [hs, sumN_zero]
theorem usP_col {k : Int} {m : Nat} : ∀ {l : List Us}, (∀ v ∈ l, 0 ≤ v.att ∧ v.att < (m : Int)) → sumN m (fun i => usP i k l) = usR k l
 | [], _ => by simp only [usP, usR]; exact sumN_zero m
 | u :: l, h => by
   have ih := usP_col (k := k) (m := m) (l := l) (fun v hv => h v (List.mem_cons_of_mem _ hv))
   obtain ⟨h1, h2⟩ := h u (List.mem_cons_self ..)
   obtain ⟨ka, hk⟩ : ∃ n : Nat, u.att = n := ⟨u.att.toNat, by omega⟩
   simp only [usP, usR]
   rw [sumN_add, ih]
   congr 1
   by_cases e : u.req = k
   ·rw [if_pos e]
    have hs : sumN m (fun i => if u.att = (i : Int) ∧ u.req = k then u.credits else 0) = sumN m (fun i => if i = ka then u.credits else 0) := sumN_congr (fun i hi => by
     by_cases e2 : i = ka
     ·subst e2; rw [if_pos ⟨hk, e⟩, if_pos rfl]
     ·rw [if_neg (fun x => e2 (by have := x.1; omega)), if_neg e2])
    rw [hs, sumN_one (by omega)]
   ·rw [if_neg e]
    have hs : sumN m (fun i => if u.att = (i : Int) ∧ u.req = k then u.credits else 0) = sumN m (fun _ => 0) := sumN_congr (fun i hi => if_neg (fun x => e x.2))
    rw [hs, sumN_zero]
theorem usA_total {m : Nat} : ∀ {l : List Us}, (∀ v ∈ l, 0 ≤ v.att ∧ v.att < (m : Int)) → sumN m (fun i => usA i l) = usT l
 | [], _ => by simp only [usA, usT]; exact sumN_zero m
 | u :: l, h => by
   have ih := usA_total (m := m) (l := l) (fun v hv => h v (List.mem_cons_of_mem _ hv))
   obtain ⟨h1, h2⟩ := h u (List.mem_cons_self ..)
   obtain ⟨ka, hk⟩ : ∃ n : Nat, u.att = n := ⟨u.att.toNat, by omega⟩
   simp only [usA, usT]
   rw [sumN_add, ih]
   congr 1
   have hs : sumN m (fun i => if u.att = (i : Int) then u.credits else 0) = sumN m (fun i => if i = ka then u.credits else 0) := sumN_congr (fun i hi => by
    by_cases e2 : i = ka
    ·subst e2; rw [if_pos hk, if_pos rfl]
    ·rw [if_neg (by omega), if_neg e2])
   rw [hs, sumN_one (by omega)]
def lexlt (a b : Us) : Prop := a.att < b.att ∨ (a.att = b.att ∧ a.req < b.req)
theorem lexlt_trans {a b c : Us} (h : lexlt a b) (k : lexlt b c) : lexlt a c := by unfold lexlt at *; omega
theorem ordOk_lt {pre : List Us} {z u : Us} (h : ordOk pre u = true) (hz : pre.getLast? = some z) : lexlt z u := by
 unfold ordOk at h
 rw [hz] at h
 simp at h
 unfold lexlt
 omega
structure AInv (p : Pg) (l : List At) (pre : List Us) : Prop where
 rng : ∀ v ∈ pre, (0 ≤ v.att ∧ v.att < (l.length : Int)) ∧ (0 ≤ v.req ∧ v.req < (p.reqs.length : Int)) ∧ 1 ≤ v.credits
 att : ∀ i : Nat, i < l.length → usA i pre ≤ (l.getD i default).credits * p.uses
 req : ∀ k : Nat, k < p.reqs.length → usR k pre ≤ (p.reqs.getD k default).credits
 cell : ∀ i k : Nat, usP i k pre = 0 ∨ (elig (p.reqs.getD k default) (l.getD i default) = true ∧ usP i k pre ≤ (l.getD i default).credits)
 last : ∀ v ∈ pre, ∀ z, pre.getLast? = some z → v = z ∨ lexlt v z
theorem AInv.nil_ {p : Pg} {l : List At} (hg : goodP p = true) (hga : ∀ a ∈ l, a.good = true) : AInv p l [] := by
 obtain ⟨hcr, _, hu1, hu4⟩ := good_credits hg
 refine ⟨by simp, fun i hi => ?_, fun k hk => ?_, fun i k => .inl rfl, by simp⟩
 ·have h := good_at (hga _ (List.getElem_mem hi))
  rw [List.getD_eq_getElem?_getD, List.getElem?_eq_getElem hi]
  exact (mul_bd h.2.2.1 h.2.2.2.1 hu1 hu4).1
 ·have := hcr _ (List.getElem_mem hk)
  rw [List.getD_eq_getElem?_getD, List.getElem?_eq_getElem hk]
  simp only [usR, Option.getD_some]; omega
theorem AInv.step {p : Pg} {l : List At} {pre : List Us} {u : Us} (h : AInv p l pre) (hu : okA p l pre u = true) : AInv p l (pre ++ [u]) := by
 obtain ⟨⟨h1, h2, h3, h4⟩, ho, ⟨h5, h6⟩, he, h7, h8⟩ := (okA_iff _ _ _ _).1 hu
 have hlt : ∀ v ∈ pre, lexlt v u := fun v hv => by
  obtain ⟨z, hz⟩ : ∃ z, pre.getLast? = some z := by
   cases hp : pre.getLast? with
   | none => rw [List.getLast?_eq_none_iff] at hp; subst hp; simp at hv
   | some z => exact ⟨z, rfl⟩
  have hzu := ordOk_lt ho hz
  rcases h.last v hv z hz with rfl | hv2
  ·exact hzu
  ·exact lexlt_trans hv2 hzu
 refine ⟨fun v hv => ?_, fun i hi => ?_, fun k hk => ?_, fun i k => ?_, fun v hv z hz => ?_⟩
 ·rcases List.mem_append.1 hv with hv | hv
  ·exact h.rng v hv
  ·simp at hv; subst hv; exact ⟨⟨h1, h2⟩, ⟨h3, h4⟩, h5⟩
 ·rw [usA_snoc]
  have := h.att i hi
  by_cases e : u.att = i
  ·rw [if_pos e]; rw [e] at h7; simpa using h7
  ·rw [if_neg e]; omega
 ·rw [usR_snoc]
  have := h.req k hk
  by_cases e : u.req = k
  ·rw [if_pos e]; rw [e] at h8; simpa using h8
  ·rw [if_neg e]; omega
 ·rw [usP_snoc]
  by_cases e : u.att = i ∧ u.req = k
  ·rw [if_pos e]
   have hz : usP i k pre = 0 := usP_zero (fun v hv hvv => by have := hlt v hv; unfold lexlt at this; omega)
   rw [hz]
   rw [e.1, e.2] at he
   rw [e.1] at h6
   simp only [Int.toNat_natCast] at he h6
   exact .inr ⟨he, by omega⟩
  ·rw [if_neg e, Int.add_zero]
   exact h.cell i k
 ·rw [List.getLast?_append] at hz
  simp at hz
  subst hz
  rcases List.mem_append.1 hv with hv | hv
  ·exact .inr (hlt v hv)
  ·simp at hv; exact .inl hv
theorem AInv.all {p : Pg} {l : List At} : ∀ (us pre : List Us), AInv p l pre → okAgo p l pre us = true → AInv p l (pre ++ us)
 | [], pre, h, _ => by simpa using h
 | u :: us, pre, h, hk => by
   simp only [okAgo, Bool.and_eq_true] at hk
   have := AInv.all us (pre ++ [u]) (h.step hk.1) hk.2
   simpa using this
theorem sumL_flat (f : Nat → List Int) : ∀ n, sumL ((List.range n).flatMap f) = sumN n (fun i => sumL (f i))
 | 0 => rfl
 | n + 1 => by rw [flat_range, sumL_app, sumL_flat f n]; rfl
theorem acc_sum (p : Pg) (l : List At) (cs : List Bool) : sumL (accL p l cs) = sumN l.length (fun i => if sideA cs i then sumN p.reqs.length (fun k => if sideR l cs k then 0 else (if elig (p.reqs.getD k default) (l.getD i default) then (l.getD i default).credits else 0)) else (l.getD i default).credits * p.uses) +
 sumN p.reqs.length (fun k => if sideR l cs k then (p.reqs.getD k default).credits else 0) := by
 unfold accL
 rw [sumL_app, sumL_flat, sumL_flat]
 congr 1
 ·refine sumN_congr (fun i hi => ?_)
  unfold rowL
  cases sideA cs i
  ·simp [sumL]
  ·simp only [if_true]
   rw [sumL_flat]
   refine sumN_congr (fun k hk => ?_)
   unfold cellL
   cases sideR l cs k <;> cases elig (p.reqs.getD k default) (l.getD i default) <;> simp [sumL]
 ·refine sumN_congr (fun k hk => ?_)
  unfold colL
  cases sideR l cs k <;> simp [sumL]
theorem uses_cut {p : Pg} {l : List At} {us : List Us} (hg : goodP p = true) (hga : ∀ a ∈ l, a.good = true) (h : okAgo p l [] us = true) (cs : List Bool) : usT us ≤ sumL (accL p l cs) := by
 have hI := AInv.all us [] (AInv.nil_ hg hga) h
 simp only [List.nil_append] at hI
 have hrow : ∀ i : Nat, sumN p.reqs.length (fun k => usP i k us) = usA i us := fun i => usP_row (fun v hv => (hI.rng v hv).2.1)
 have hcol : ∀ k : Nat, sumN l.length (fun i => usP i k us) = usR k us := fun k => usP_col (fun v hv => (hI.rng v hv).1)
 have htot : sumN l.length (fun i => sumN p.reqs.length (fun k => usP i k us)) = usT us := by
  rw [← usA_total (m := l.length) (fun v hv => (hI.rng v hv).1)]
  exact sumN_congr (fun i hi => hrow i)
 have hw := weak_cut l.length p.reqs.length (fun i k => usP i k us) (fun i => (l.getD i default).credits * p.uses) (fun k => (p.reqs.getD k default).credits)
  (fun i k => if elig (p.reqs.getD k default) (l.getD i default) then (l.getD i default).credits else 0) (sideA cs) (sideR l cs)
  (fun i k => usP_nonneg _ _ (fun v hv => (hI.rng v hv).2.2)) (fun i hi => by rw [hrow]; exact hI.att i hi) (fun k hk => by rw [hcol]; exact hI.req k hk) (fun i k hi hk => by
    have hc : 0 ≤ (l.getD i default).credits := by
     have h := good_at (hga _ (List.getElem_mem hi))
     rw [List.getD_eq_getElem?_getD, List.getElem?_eq_getElem hi]
     exact h.2.2.1
    rcases hI.cell i k with h0 | ⟨h1, h2⟩
    ·rw [h0]; split <;> omega
    ·rw [if_pos h1]; exact h2)
 rw [htot] at hw
 rw [acc_sum]
 exact hw
theorem miss_nonneg {p : Pg} {l : List At} {us : List Us} (h : allowP p l us = 0) : 0 ≤ totR p.reqs - usT us := by
 obtain ⟨h1, _, h3, _⟩ := allow_zero h
 obtain ⟨hcr, hlen, _, _⟩ := good_credits h1
 exact (tot_bd hcr hlen (okAgo_okMgo p l us [] h3)).1
theorem dual_law2 {p : Pg} {l : List At} {us : List Us} (cs : List Bool) (h : allowP p l us = 0) (hb : (boundP p l cs).2 = 0) : 0 ≤ (boundP p l cs).1 ∧ (boundP p l cs).1 ≤ totR p.reqs - usT us := by
 obtain ⟨h1, h2, h3, h4⟩ := allow_zero h
 have hc := uses_cut h1 h2 h3 cs
 have hm := miss_nonneg h
 unfold boundP at hb ⊢
 rw [if_pos h4] at hb ⊢
 split at hb
 ·rename_i hk
  rw [if_pos hk]
  simp only
  omega
 ·simp at hb
theorem optimal_law {p : Pg} {l : List At} {us vs : List Us} {M : Int} {cs : List Bool} (h : auditE p l us M cs = 0) (hv : allowP p l vs = 0) : M ≤ totR p.reqs - usT vs := by
 unfold auditE at h
 split at h
 ·split at h
  ·split at h
   ·rename_i hb
    split at h
    ·rename_i hM
     have := (dual_law2 cs hv hb).2
     omega
    ·simp at h
   ·contradiction
  ·simp at h
 ·contradiction
end Go.Proofs.YtalmbigebjbaoaaGreatDoor
