/- Check and its reference. -/
import Derived.Test.YtgimpbcdgfkdmaaProN
import Derived.Test.YtgimpbcdgfkdmaaProJ
namespace Go.Proofs.Ytgimpbcdgfkdmaa
open Go.RowKit Go.Shelf
set_option linter.unusedSimpArgs false
set_option linter.unusedVariables false

/-- what Allowed takes, Missing takes -/
theorem okA_okM {p : Pg} {l : List At} {pre : List Us} {u : Us} (h : okA p l pre u = true) : okM p.reqs pre u = true := by
  obtain ⟨⟨_, _, h1, h2⟩, _, ⟨h3, _⟩, _, _, h4⟩ := (okA_iff _ _ _ _).1 h
  exact (okM_iff _ _ _).2 ⟨h1, h2, h3, by omega⟩
theorem okAgo_okMgo (p : Pg) (l : List At) : ∀ (us pre : List Us), okAgo p l pre us = true → okMgo p.reqs pre us = true
  | [], _, _ => rfl
  | u :: us, pre, h => by
    simp only [okAgo, okMgo, Bool.and_eq_true] at h ⊢
    exact ⟨okA_okM h.1, okAgo_okMgo p l us _ h.2⟩
theorem allow_zero {p : Pg} {l : List At} {us : List Us} (h : allowP p l us = 0) : goodP p = true ∧ (∀ a ∈ l, a.good = true) ∧ okAgo p l [] us = true ∧ askedE p l = 0 := by
  unfold allowP at h
  split at h
  · rename_i h0
    split at h
    · rename_i h1
      exact ⟨(asked_zero h0).1, (asked_zero h0).2, h1, h0⟩
    · simp at h
  · contradiction
theorem miss_of_allow {p : Pg} {l : List At} {us : List Us} (h : allowP p l us = 0) : missP p us = (totR p.reqs - usT us, 0) := by
  obtain ⟨h1, _, h3, _⟩ := allow_zero h
  unfold missP
  rw [checkP_ok h1, if_pos rfl, if_pos (okAgo_okMgo p l us [] h3)]
/-- Check -/
def auditE (p : Pg) (l : List At) (us : List Us) (M : Int) (cs : List Bool) : Int :=
  if allowP p l us = 0 then (if totR p.reqs - usT us = M then (if (boundP p l cs).2 = 0 then (if (boundP p l cs).1 = M then 0 else 200) else (boundP p l cs).2) else 200) else allowP p l us
def auV (u : Sl) (M : Int) (cv : Sl) : Value := .agg #[.slice u.a u.n u.c, .int .i64 M, .slice cv.a cv.n cv.c]
def auC (u : Sl) (M : Int) (cv : Sl) : List Value := [.slice u.a u.n u.c, .int .i64 M, .slice cv.a cv.n cv.c]

set_option maxRecDepth 100000 in
set_option maxHeartbeats 8000000 in
theorem ProCheck_any {P : Nat → Prop} (p : Pg) (s : Sl) (l : List At) (B : Option Addr) (b : Nat) (us : List Us) (D : Option Addr) (d : Nat) (M : Int) (cs : List Bool) (C : Option Addr) (cc : Nat) (w : World) (hr : Rqs w P s p.reqs) (hi : p.mean.i64) (hla : SlR w P 5 At.enc ⟨B, l.length, b⟩ l) (hx : Reads w w.heap.size D 3 Us.enc us) (hcs : SlR w P 1 boolE ⟨C, cs.length, cc⟩ cs) (hll : l.length ≤ 1000) (hlu : us.length ≤ 100000) :
    Calls Try.prog 19 #[pgV p s, .slice B l.length b, auV ⟨D, us.length, d⟩ M ⟨C, cs.length, cc⟩] w fun e w' => e = .returned (.int .i64 (auditE p l us M cs)) ∧ Below w.heap.size w w' := by
  have hA := Lib.hid (fun W (h : Below w.heap.size w W) => Allowed_any (P := P) p s l B b us D d W (hr.step h) hi ((hla.reads.below h).more h.size) ((hx.below h).more h.size) hll hlu)
  have hM := Lib.hid (fun W (h : Below w.heap.size w W) => Missing_any (P := P) p s us D d W (hr.step h) hi ((hx.below h).more h.size) (by omega))
  have hB := Lib.hid (fun W (h : Below w.heap.size w W) => Bound_any (P := P) p s l B b cs C cc W (hr.step h) hi (hla.step h) (hcs.step h) hll)
  have hn := hr.len
  obtain ⟨A, n, c⟩ := s
  simp only at hn
  subst hn
  clear hr hla hx hcs
  obtain ⟨E, hE⟩ : ∃ a, auditE p l us M cs = a := ⟨_, rfl⟩
  rw [hE]
  have HE := Lib.hid hE
  clear hE
  obtain ⟨E1, hE1⟩ : ∃ a, a = allowP p l us := ⟨_, rfl⟩
  rw [← hE1] at hA
  have HE1 := Lib.hid hE1
  obtain ⟨B1, B2, hB12⟩ : ∃ a b, boundP p l cs = (a, b) := ⟨_, _, rfl⟩
  rw [hB12] at hB
  have HB12 := Lib.hid hB12
  clear hE1 hB12
  unfold pgV auV at *
  simp only at hA hM hB ⊢
  by_cases h0 : E1 = 0
  rotate_left
  · obtain rfl : E = E1 := by rw [← HE.out, HE1.out]; unfold auditE; rw [if_neg (by rw [← HE1.out]; exact h0)]
    have e1 : (E == 0) = false := by simpa using h0
    have e2 : (E != 0) = true := by simpa using h0
    clear h0
    go_enter Try.func19, Try.ntmps19
    go_wp2_with fail
    refine (hA.out _ (((Below.refl _ _).alloc (Nat.le_refl _) _).alloc (by simp) _)).mono ?_
    rintro e w2 ⟨rfl, hb2⟩
    have HBE : Hid (Below w.heap.size w w2) := Lib.hid ((((Below.refl _ _).alloc (Nat.le_refl _) _).alloc (by simp) _).trans (hb2.mono (by simp; omega)))
    have HBP := Lib.hid (((Bx.new w (pgC p ⟨A, p.reqs.length, c⟩) 26).alloc (.cells #[.slice D us.length d, .int .i64 M, .slice C cs.length cc] 39)).step hb2)
    have HBA := Lib.hid ((Bx.at_ (w.alloc (.cells #[.string p.nm, .int .i64 p.number, .int .i64 p.uses, .int .i64 p.earn, .int .i64 p.mean.num, .int .i64 p.mean.den, .slice A p.reqs.length c] 26)) [.slice D us.length d, .int .i64 M, .slice C cs.length cc] 39 (w.heap.size + 1) (by simp)).step hb2)
    clear hb2
    have p0 := HBP.out.1 0 _ rfl
    have p1 := HBP.out.1 1 _ rfl
    have p2 := HBP.out.1 2 _ rfl
    have p3 := HBP.out.1 3 _ rfl
    have p4 := HBP.out.1 4 _ rfl
    have p5 := HBP.out.1 5 _ rfl
    have p6 := HBP.out.1 6 _ rfl
    have a0 := HBA.out.1 0 _ rfl
    have a1 := HBA.out.1 1 _ rfl
    have a2 := HBA.out.1 2 _ rfl
    have pz := HBP.out.2.2
    have az := HBA.out.2.2
    go_wp2_with fail
    go_ret
    exact ⟨rfl, HBE.out⟩
  subst h0
  have HMI : Hid (missP p us = (totR p.reqs - usT us, 0)) := Lib.hid (miss_of_allow HE1.out.symm)
  obtain ⟨N, hN⟩ : ∃ N, N = totR p.reqs - usT us := ⟨_, rfl⟩
  rw [← hN] at HMI
  have HN := Lib.hid hN
  clear hN
  have hE := HE.out
  unfold auditE at hE
  rw [if_pos HE1.out.symm, ← HN.out, HB12.out] at hE
  by_cases h1 : N = M
  rotate_left
  · rw [if_neg h1] at hE
    subst hE
    have e1 : (N == M) = false := by simpa using h1
    have e2 : (N != M) = true := by simpa using h1
    clear h1
    go_enter Try.func19, Try.ntmps19
    go_wp2_with fail
    refine (hA.out _ (((Below.refl _ _).alloc (Nat.le_refl _) _).alloc (by simp) _)).mono ?_
    rintro e w2 ⟨rfl, hb2⟩
    have HBE : Hid (Below w.heap.size w w2) := Lib.hid ((((Below.refl _ _).alloc (Nat.le_refl _) _).alloc (by simp) _).trans (hb2.mono (by simp; omega)))
    have HBP := Lib.hid (((Bx.new w (pgC p ⟨A, p.reqs.length, c⟩) 26).alloc (.cells #[.slice D us.length d, .int .i64 M, .slice C cs.length cc] 39)).step hb2)
    have HBA := Lib.hid ((Bx.at_ (w.alloc (.cells #[.string p.nm, .int .i64 p.number, .int .i64 p.uses, .int .i64 p.earn, .int .i64 p.mean.num, .int .i64 p.mean.den, .slice A p.reqs.length c] 26)) [.slice D us.length d, .int .i64 M, .slice C cs.length cc] 39 (w.heap.size + 1) (by simp)).step hb2)
    clear hb2
    have p0 := HBP.out.1 0 _ rfl
    have p1 := HBP.out.1 1 _ rfl
    have p2 := HBP.out.1 2 _ rfl
    have p3 := HBP.out.1 3 _ rfl
    have p4 := HBP.out.1 4 _ rfl
    have p5 := HBP.out.1 5 _ rfl
    have p6 := HBP.out.1 6 _ rfl
    have a0 := HBA.out.1 0 _ rfl
    have a1 := HBA.out.1 1 _ rfl
    have a2 := HBA.out.1 2 _ rfl
    have pz := HBP.out.2.2
    have az := HBA.out.2.2
    go_wp2_with fail
    refine (hM.out _ HBE.out).mono ?_
    rw [HMI.out]
    rintro e w3 ⟨rfl, hb3⟩
    have HBE := Lib.hid (HBE.out.trans (hb3.mono HBE.out.size))
    have HBP := Lib.hid (HBP.out.step hb3)
    have HBA := Lib.hid (HBA.out.step hb3)
    clear hb3
    clear p0 p1 p2 p3 p4 p5 p6 a0 a1 a2 pz az
    have p0 := HBP.out.1 0 _ rfl
    have p1 := HBP.out.1 1 _ rfl
    have p2 := HBP.out.1 2 _ rfl
    have p3 := HBP.out.1 3 _ rfl
    have p4 := HBP.out.1 4 _ rfl
    have p5 := HBP.out.1 5 _ rfl
    have p6 := HBP.out.1 6 _ rfl
    have a0 := HBA.out.1 0 _ rfl
    have a1 := HBA.out.1 1 _ rfl
    have a2 := HBA.out.1 2 _ rfl
    have pz := HBP.out.2.2
    have az := HBA.out.2.2
    go_wp2_with fail
    go_ret
    exact ⟨rfl, HBE.out⟩
  rw [if_pos h1] at hE
  have e1 : (N == M) = true := by simpa using h1
  have e2 : (N != M) = false := by simpa using h1
  clear h1
  simp only at hE
  by_cases h2 : B2 = 0
  rotate_left
  · rw [if_neg h2] at hE
    subst hE
    have e3 : (B2 == 0) = false := by simpa using h2
    have e4 : (B2 != 0) = true := by simpa using h2
    clear h2
    go_enter Try.func19, Try.ntmps19
    go_wp2_with fail
    refine (hA.out _ (((Below.refl _ _).alloc (Nat.le_refl _) _).alloc (by simp) _)).mono ?_
    rintro e w2 ⟨rfl, hb2⟩
    have HBE : Hid (Below w.heap.size w w2) := Lib.hid ((((Below.refl _ _).alloc (Nat.le_refl _) _).alloc (by simp) _).trans (hb2.mono (by simp; omega)))
    have HBP := Lib.hid (((Bx.new w (pgC p ⟨A, p.reqs.length, c⟩) 26).alloc (.cells #[.slice D us.length d, .int .i64 M, .slice C cs.length cc] 39)).step hb2)
    have HBA := Lib.hid ((Bx.at_ (w.alloc (.cells #[.string p.nm, .int .i64 p.number, .int .i64 p.uses, .int .i64 p.earn, .int .i64 p.mean.num, .int .i64 p.mean.den, .slice A p.reqs.length c] 26)) [.slice D us.length d, .int .i64 M, .slice C cs.length cc] 39 (w.heap.size + 1) (by simp)).step hb2)
    clear hb2
    have p0 := HBP.out.1 0 _ rfl
    have p1 := HBP.out.1 1 _ rfl
    have p2 := HBP.out.1 2 _ rfl
    have p3 := HBP.out.1 3 _ rfl
    have p4 := HBP.out.1 4 _ rfl
    have p5 := HBP.out.1 5 _ rfl
    have p6 := HBP.out.1 6 _ rfl
    have a0 := HBA.out.1 0 _ rfl
    have a1 := HBA.out.1 1 _ rfl
    have a2 := HBA.out.1 2 _ rfl
    have pz := HBP.out.2.2
    have az := HBA.out.2.2
    go_wp2_with fail
    refine (hM.out _ HBE.out).mono ?_
    rw [HMI.out]
    rintro e w3 ⟨rfl, hb3⟩
    have HBE := Lib.hid (HBE.out.trans (hb3.mono HBE.out.size))
    have HBP := Lib.hid (HBP.out.step hb3)
    have HBA := Lib.hid (HBA.out.step hb3)
    clear hb3
    clear p0 p1 p2 p3 p4 p5 p6 a0 a1 a2 pz az
    have p0 := HBP.out.1 0 _ rfl
    have p1 := HBP.out.1 1 _ rfl
    have p2 := HBP.out.1 2 _ rfl
    have p3 := HBP.out.1 3 _ rfl
    have p4 := HBP.out.1 4 _ rfl
    have p5 := HBP.out.1 5 _ rfl
    have p6 := HBP.out.1 6 _ rfl
    have a0 := HBA.out.1 0 _ rfl
    have a1 := HBA.out.1 1 _ rfl
    have a2 := HBA.out.1 2 _ rfl
    have pz := HBP.out.2.2
    have az := HBA.out.2.2
    go_wp2_with fail
    refine (hB.out _ HBE.out).mono ?_
    rintro e w4 ⟨rfl, hb4⟩
    have HBE := Lib.hid (HBE.out.trans (hb4.mono HBE.out.size))
    have HBP := Lib.hid (HBP.out.step hb4)
    have HBA := Lib.hid (HBA.out.step hb4)
    clear hb4
    clear p0 p1 p2 p3 p4 p5 p6 a0 a1 a2 pz az
    have p0 := HBP.out.1 0 _ rfl
    have p1 := HBP.out.1 1 _ rfl
    have p2 := HBP.out.1 2 _ rfl
    have p3 := HBP.out.1 3 _ rfl
    have p4 := HBP.out.1 4 _ rfl
    have p5 := HBP.out.1 5 _ rfl
    have p6 := HBP.out.1 6 _ rfl
    have a0 := HBA.out.1 0 _ rfl
    have a1 := HBA.out.1 1 _ rfl
    have a2 := HBA.out.1 2 _ rfl
    have pz := HBP.out.2.2
    have az := HBA.out.2.2
    go_wp2_with fail
    go_ret
    exact ⟨rfl, HBE.out⟩
  rw [if_pos h2] at hE
  subst h2
  by_cases h3 : B1 = M
  · rw [if_pos h3] at hE
    subst hE
    have e3 : (B1 == M) = true := by simpa using h3
    have e4 : (B1 != M) = false := by simpa using h3
    clear h3
    go_enter Try.func19, Try.ntmps19
    go_wp2_with fail
    refine (hA.out _ (((Below.refl _ _).alloc (Nat.le_refl _) _).alloc (by simp) _)).mono ?_
    rintro e w2 ⟨rfl, hb2⟩
    have HBE : Hid (Below w.heap.size w w2) := Lib.hid ((((Below.refl _ _).alloc (Nat.le_refl _) _).alloc (by simp) _).trans (hb2.mono (by simp; omega)))
    have HBP := Lib.hid (((Bx.new w (pgC p ⟨A, p.reqs.length, c⟩) 26).alloc (.cells #[.slice D us.length d, .int .i64 M, .slice C cs.length cc] 39)).step hb2)
    have HBA := Lib.hid ((Bx.at_ (w.alloc (.cells #[.string p.nm, .int .i64 p.number, .int .i64 p.uses, .int .i64 p.earn, .int .i64 p.mean.num, .int .i64 p.mean.den, .slice A p.reqs.length c] 26)) [.slice D us.length d, .int .i64 M, .slice C cs.length cc] 39 (w.heap.size + 1) (by simp)).step hb2)
    clear hb2
    have p0 := HBP.out.1 0 _ rfl
    have p1 := HBP.out.1 1 _ rfl
    have p2 := HBP.out.1 2 _ rfl
    have p3 := HBP.out.1 3 _ rfl
    have p4 := HBP.out.1 4 _ rfl
    have p5 := HBP.out.1 5 _ rfl
    have p6 := HBP.out.1 6 _ rfl
    have a0 := HBA.out.1 0 _ rfl
    have a1 := HBA.out.1 1 _ rfl
    have a2 := HBA.out.1 2 _ rfl
    have pz := HBP.out.2.2
    have az := HBA.out.2.2
    go_wp2_with fail
    refine (hM.out _ HBE.out).mono ?_
    rw [HMI.out]
    rintro e w3 ⟨rfl, hb3⟩
    have HBE := Lib.hid (HBE.out.trans (hb3.mono HBE.out.size))
    have HBP := Lib.hid (HBP.out.step hb3)
    have HBA := Lib.hid (HBA.out.step hb3)
    clear hb3
    clear p0 p1 p2 p3 p4 p5 p6 a0 a1 a2 pz az
    have p0 := HBP.out.1 0 _ rfl
    have p1 := HBP.out.1 1 _ rfl
    have p2 := HBP.out.1 2 _ rfl
    have p3 := HBP.out.1 3 _ rfl
    have p4 := HBP.out.1 4 _ rfl
    have p5 := HBP.out.1 5 _ rfl
    have p6 := HBP.out.1 6 _ rfl
    have a0 := HBA.out.1 0 _ rfl
    have a1 := HBA.out.1 1 _ rfl
    have a2 := HBA.out.1 2 _ rfl
    have pz := HBP.out.2.2
    have az := HBA.out.2.2
    go_wp2_with fail
    refine (hB.out _ HBE.out).mono ?_
    rintro e w4 ⟨rfl, hb4⟩
    have HBE := Lib.hid (HBE.out.trans (hb4.mono HBE.out.size))
    have HBP := Lib.hid (HBP.out.step hb4)
    have HBA := Lib.hid (HBA.out.step hb4)
    clear hb4
    clear p0 p1 p2 p3 p4 p5 p6 a0 a1 a2 pz az
    have p0 := HBP.out.1 0 _ rfl
    have p1 := HBP.out.1 1 _ rfl
    have p2 := HBP.out.1 2 _ rfl
    have p3 := HBP.out.1 3 _ rfl
    have p4 := HBP.out.1 4 _ rfl
    have p5 := HBP.out.1 5 _ rfl
    have p6 := HBP.out.1 6 _ rfl
    have a0 := HBA.out.1 0 _ rfl
    have a1 := HBA.out.1 1 _ rfl
    have a2 := HBA.out.1 2 _ rfl
    have pz := HBP.out.2.2
    have az := HBA.out.2.2
    go_wp2_with fail
    go_ret
    exact ⟨rfl, HBE.out⟩
  · rw [if_neg h3] at hE
    subst hE
    have e3 : (B1 == M) = false := by simpa using h3
    have e4 : (B1 != M) = true := by simpa using h3
    clear h3
    go_enter Try.func19, Try.ntmps19
    go_wp2_with fail
    refine (hA.out _ (((Below.refl _ _).alloc (Nat.le_refl _) _).alloc (by simp) _)).mono ?_
    rintro e w2 ⟨rfl, hb2⟩
    have HBE : Hid (Below w.heap.size w w2) := Lib.hid ((((Below.refl _ _).alloc (Nat.le_refl _) _).alloc (by simp) _).trans (hb2.mono (by simp; omega)))
    have HBP := Lib.hid (((Bx.new w (pgC p ⟨A, p.reqs.length, c⟩) 26).alloc (.cells #[.slice D us.length d, .int .i64 M, .slice C cs.length cc] 39)).step hb2)
    have HBA := Lib.hid ((Bx.at_ (w.alloc (.cells #[.string p.nm, .int .i64 p.number, .int .i64 p.uses, .int .i64 p.earn, .int .i64 p.mean.num, .int .i64 p.mean.den, .slice A p.reqs.length c] 26)) [.slice D us.length d, .int .i64 M, .slice C cs.length cc] 39 (w.heap.size + 1) (by simp)).step hb2)
    clear hb2
    have p0 := HBP.out.1 0 _ rfl
    have p1 := HBP.out.1 1 _ rfl
    have p2 := HBP.out.1 2 _ rfl
    have p3 := HBP.out.1 3 _ rfl
    have p4 := HBP.out.1 4 _ rfl
    have p5 := HBP.out.1 5 _ rfl
    have p6 := HBP.out.1 6 _ rfl
    have a0 := HBA.out.1 0 _ rfl
    have a1 := HBA.out.1 1 _ rfl
    have a2 := HBA.out.1 2 _ rfl
    have pz := HBP.out.2.2
    have az := HBA.out.2.2
    go_wp2_with fail
    refine (hM.out _ HBE.out).mono ?_
    rw [HMI.out]
    rintro e w3 ⟨rfl, hb3⟩
    have HBE := Lib.hid (HBE.out.trans (hb3.mono HBE.out.size))
    have HBP := Lib.hid (HBP.out.step hb3)
    have HBA := Lib.hid (HBA.out.step hb3)
    clear hb3
    clear p0 p1 p2 p3 p4 p5 p6 a0 a1 a2 pz az
    have p0 := HBP.out.1 0 _ rfl
    have p1 := HBP.out.1 1 _ rfl
    have p2 := HBP.out.1 2 _ rfl
    have p3 := HBP.out.1 3 _ rfl
    have p4 := HBP.out.1 4 _ rfl
    have p5 := HBP.out.1 5 _ rfl
    have p6 := HBP.out.1 6 _ rfl
    have a0 := HBA.out.1 0 _ rfl
    have a1 := HBA.out.1 1 _ rfl
    have a2 := HBA.out.1 2 _ rfl
    have pz := HBP.out.2.2
    have az := HBA.out.2.2
    go_wp2_with fail
    refine (hB.out _ HBE.out).mono ?_
    rintro e w4 ⟨rfl, hb4⟩
    have HBE := Lib.hid (HBE.out.trans (hb4.mono HBE.out.size))
    have HBP := Lib.hid (HBP.out.step hb4)
    have HBA := Lib.hid (HBA.out.step hb4)
    clear hb4
    clear p0 p1 p2 p3 p4 p5 p6 a0 a1 a2 pz az
    have p0 := HBP.out.1 0 _ rfl
    have p1 := HBP.out.1 1 _ rfl
    have p2 := HBP.out.1 2 _ rfl
    have p3 := HBP.out.1 3 _ rfl
    have p4 := HBP.out.1 4 _ rfl
    have p5 := HBP.out.1 5 _ rfl
    have p6 := HBP.out.1 6 _ rfl
    have a0 := HBA.out.1 0 _ rfl
    have a1 := HBA.out.1 1 _ rfl
    have a2 := HBA.out.1 2 _ rfl
    have pz := HBP.out.2.2
    have az := HBA.out.2.2
    go_wp2_with fail
    go_ret
    exact ⟨rfl, HBE.out⟩

set_option maxRecDepth 100000 in
set_option maxHeartbeats 8000000 in
theorem RProCheck_any {P : Nat → Prop} (p : Pg) (s : Sl) (l : List At) (B : Option Addr) (b : Nat) (us : List Us) (D : Option Addr) (d : Nat) (M : Int) (cs : List Bool) (C : Option Addr) (cc : Nat) (w : World) (hr : Rqs w P s p.reqs) (hi : p.mean.i64) (hla : SlR w P 5 At.enc ⟨B, l.length, b⟩ l) (hx : Reads w w.heap.size D 3 Us.enc us) (hcs : SlR w P 1 boolE ⟨C, cs.length, cc⟩ cs) (hll : l.length ≤ 1000) (hlu : us.length ≤ 100000) :
    Calls Try.prog 20 #[pgV p s, .slice B l.length b, auV ⟨D, us.length, d⟩ M ⟨C, cs.length, cc⟩] w fun e w' => e = .returned (.int .i64 (auditE p l us M cs)) ∧ Below w.heap.size w w' := by
  have hA := Lib.hid (fun W (h : Below w.heap.size w W) => RAllowed_any (P := P) p s l B b us D d W (hr.step h) hi ((hla.reads.below h).more h.size) ((hx.below h).more h.size) hll hlu)
  have hM := Lib.hid (fun W (h : Below w.heap.size w W) => RMissing_any (P := P) p s us D d W (hr.step h) hi ((hx.below h).more h.size) (by omega))
  have hB := Lib.hid (fun W (h : Below w.heap.size w W) => RBound_any (P := P) p s l B b cs C cc W (hr.step h) hi (hla.step h) (hcs.step h) hll)
  have hn := hr.len
  obtain ⟨A, n, c⟩ := s
  simp only at hn
  subst hn
  clear hr hla hx hcs
  obtain ⟨E, hE⟩ : ∃ a, auditE p l us M cs = a := ⟨_, rfl⟩
  rw [hE]
  have HE := Lib.hid hE
  clear hE
  obtain ⟨E1, hE1⟩ : ∃ a, a = allowP p l us := ⟨_, rfl⟩
  rw [← hE1] at hA
  have HE1 := Lib.hid hE1
  obtain ⟨B1, B2, hB12⟩ : ∃ a b, boundP p l cs = (a, b) := ⟨_, _, rfl⟩
  rw [hB12] at hB
  have HB12 := Lib.hid hB12
  clear hE1 hB12
  unfold pgV auV at *
  simp only at hA hM hB ⊢
  by_cases h0 : E1 = 0
  rotate_left
  · obtain rfl : E = E1 := by rw [← HE.out, HE1.out]; unfold auditE; rw [if_neg (by rw [← HE1.out]; exact h0)]
    have e1 : (E == 0) = false := by simpa using h0
    have e2 : (E != 0) = true := by simpa using h0
    clear h0
    go_enter Try.func20, Try.ntmps20
    go_wp2_with fail
    refine (hA.out _ (((Below.refl _ _).alloc (Nat.le_refl _) _).alloc (by simp) _)).mono ?_
    rintro e w2 ⟨rfl, hb2⟩
    have HBE : Hid (Below w.heap.size w w2) := Lib.hid ((((Below.refl _ _).alloc (Nat.le_refl _) _).alloc (by simp) _).trans (hb2.mono (by simp; omega)))
    have HBP := Lib.hid (((Bx.new w (pgC p ⟨A, p.reqs.length, c⟩) 26).alloc (.cells #[.slice D us.length d, .int .i64 M, .slice C cs.length cc] 39)).step hb2)
    have HBA := Lib.hid ((Bx.at_ (w.alloc (.cells #[.string p.nm, .int .i64 p.number, .int .i64 p.uses, .int .i64 p.earn, .int .i64 p.mean.num, .int .i64 p.mean.den, .slice A p.reqs.length c] 26)) [.slice D us.length d, .int .i64 M, .slice C cs.length cc] 39 (w.heap.size + 1) (by simp)).step hb2)
    clear hb2
    have p0 := HBP.out.1 0 _ rfl
    have p1 := HBP.out.1 1 _ rfl
    have p2 := HBP.out.1 2 _ rfl
    have p3 := HBP.out.1 3 _ rfl
    have p4 := HBP.out.1 4 _ rfl
    have p5 := HBP.out.1 5 _ rfl
    have p6 := HBP.out.1 6 _ rfl
    have a0 := HBA.out.1 0 _ rfl
    have a1 := HBA.out.1 1 _ rfl
    have a2 := HBA.out.1 2 _ rfl
    have pz := HBP.out.2.2
    have az := HBA.out.2.2
    go_wp2_with fail
    go_ret
    exact ⟨rfl, HBE.out⟩
  subst h0
  have HMI : Hid (missP p us = (totR p.reqs - usT us, 0)) := Lib.hid (miss_of_allow HE1.out.symm)
  obtain ⟨N, hN⟩ : ∃ N, N = totR p.reqs - usT us := ⟨_, rfl⟩
  rw [← hN] at HMI
  have HN := Lib.hid hN
  clear hN
  have hE := HE.out
  unfold auditE at hE
  rw [if_pos HE1.out.symm, ← HN.out, HB12.out] at hE
  by_cases h1 : N = M
  rotate_left
  · rw [if_neg h1] at hE
    subst hE
    have e1 : (N == M) = false := by simpa using h1
    have e2 : (N != M) = true := by simpa using h1
    clear h1
    go_enter Try.func20, Try.ntmps20
    go_wp2_with fail
    refine (hA.out _ (((Below.refl _ _).alloc (Nat.le_refl _) _).alloc (by simp) _)).mono ?_
    rintro e w2 ⟨rfl, hb2⟩
    have HBE : Hid (Below w.heap.size w w2) := Lib.hid ((((Below.refl _ _).alloc (Nat.le_refl _) _).alloc (by simp) _).trans (hb2.mono (by simp; omega)))
    have HBP := Lib.hid (((Bx.new w (pgC p ⟨A, p.reqs.length, c⟩) 26).alloc (.cells #[.slice D us.length d, .int .i64 M, .slice C cs.length cc] 39)).step hb2)
    have HBA := Lib.hid ((Bx.at_ (w.alloc (.cells #[.string p.nm, .int .i64 p.number, .int .i64 p.uses, .int .i64 p.earn, .int .i64 p.mean.num, .int .i64 p.mean.den, .slice A p.reqs.length c] 26)) [.slice D us.length d, .int .i64 M, .slice C cs.length cc] 39 (w.heap.size + 1) (by simp)).step hb2)
    clear hb2
    have p0 := HBP.out.1 0 _ rfl
    have p1 := HBP.out.1 1 _ rfl
    have p2 := HBP.out.1 2 _ rfl
    have p3 := HBP.out.1 3 _ rfl
    have p4 := HBP.out.1 4 _ rfl
    have p5 := HBP.out.1 5 _ rfl
    have p6 := HBP.out.1 6 _ rfl
    have a0 := HBA.out.1 0 _ rfl
    have a1 := HBA.out.1 1 _ rfl
    have a2 := HBA.out.1 2 _ rfl
    have pz := HBP.out.2.2
    have az := HBA.out.2.2
    go_wp2_with fail
    refine (hM.out _ HBE.out).mono ?_
    rw [HMI.out]
    rintro e w3 ⟨rfl, hb3⟩
    have HBE := Lib.hid (HBE.out.trans (hb3.mono HBE.out.size))
    have HBP := Lib.hid (HBP.out.step hb3)
    have HBA := Lib.hid (HBA.out.step hb3)
    clear hb3
    clear p0 p1 p2 p3 p4 p5 p6 a0 a1 a2 pz az
    have p0 := HBP.out.1 0 _ rfl
    have p1 := HBP.out.1 1 _ rfl
    have p2 := HBP.out.1 2 _ rfl
    have p3 := HBP.out.1 3 _ rfl
    have p4 := HBP.out.1 4 _ rfl
    have p5 := HBP.out.1 5 _ rfl
    have p6 := HBP.out.1 6 _ rfl
    have a0 := HBA.out.1 0 _ rfl
    have a1 := HBA.out.1 1 _ rfl
    have a2 := HBA.out.1 2 _ rfl
    have pz := HBP.out.2.2
    have az := HBA.out.2.2
    go_wp2_with fail
    go_ret
    exact ⟨rfl, HBE.out⟩
  rw [if_pos h1] at hE
  have e1 : (N == M) = true := by simpa using h1
  have e2 : (N != M) = false := by simpa using h1
  clear h1
  simp only at hE
  by_cases h2 : B2 = 0
  rotate_left
  · rw [if_neg h2] at hE
    subst hE
    have e3 : (B2 == 0) = false := by simpa using h2
    have e4 : (B2 != 0) = true := by simpa using h2
    clear h2
    go_enter Try.func20, Try.ntmps20
    go_wp2_with fail
    refine (hA.out _ (((Below.refl _ _).alloc (Nat.le_refl _) _).alloc (by simp) _)).mono ?_
    rintro e w2 ⟨rfl, hb2⟩
    have HBE : Hid (Below w.heap.size w w2) := Lib.hid ((((Below.refl _ _).alloc (Nat.le_refl _) _).alloc (by simp) _).trans (hb2.mono (by simp; omega)))
    have HBP := Lib.hid (((Bx.new w (pgC p ⟨A, p.reqs.length, c⟩) 26).alloc (.cells #[.slice D us.length d, .int .i64 M, .slice C cs.length cc] 39)).step hb2)
    have HBA := Lib.hid ((Bx.at_ (w.alloc (.cells #[.string p.nm, .int .i64 p.number, .int .i64 p.uses, .int .i64 p.earn, .int .i64 p.mean.num, .int .i64 p.mean.den, .slice A p.reqs.length c] 26)) [.slice D us.length d, .int .i64 M, .slice C cs.length cc] 39 (w.heap.size + 1) (by simp)).step hb2)
    clear hb2
    have p0 := HBP.out.1 0 _ rfl
    have p1 := HBP.out.1 1 _ rfl
    have p2 := HBP.out.1 2 _ rfl
    have p3 := HBP.out.1 3 _ rfl
    have p4 := HBP.out.1 4 _ rfl
    have p5 := HBP.out.1 5 _ rfl
    have p6 := HBP.out.1 6 _ rfl
    have a0 := HBA.out.1 0 _ rfl
    have a1 := HBA.out.1 1 _ rfl
    have a2 := HBA.out.1 2 _ rfl
    have pz := HBP.out.2.2
    have az := HBA.out.2.2
    go_wp2_with fail
    refine (hM.out _ HBE.out).mono ?_
    rw [HMI.out]
    rintro e w3 ⟨rfl, hb3⟩
    have HBE := Lib.hid (HBE.out.trans (hb3.mono HBE.out.size))
    have HBP := Lib.hid (HBP.out.step hb3)
    have HBA := Lib.hid (HBA.out.step hb3)
    clear hb3
    clear p0 p1 p2 p3 p4 p5 p6 a0 a1 a2 pz az
    have p0 := HBP.out.1 0 _ rfl
    have p1 := HBP.out.1 1 _ rfl
    have p2 := HBP.out.1 2 _ rfl
    have p3 := HBP.out.1 3 _ rfl
    have p4 := HBP.out.1 4 _ rfl
    have p5 := HBP.out.1 5 _ rfl
    have p6 := HBP.out.1 6 _ rfl
    have a0 := HBA.out.1 0 _ rfl
    have a1 := HBA.out.1 1 _ rfl
    have a2 := HBA.out.1 2 _ rfl
    have pz := HBP.out.2.2
    have az := HBA.out.2.2
    go_wp2_with fail
    refine (hB.out _ HBE.out).mono ?_
    rintro e w4 ⟨rfl, hb4⟩
    have HBE := Lib.hid (HBE.out.trans (hb4.mono HBE.out.size))
    have HBP := Lib.hid (HBP.out.step hb4)
    have HBA := Lib.hid (HBA.out.step hb4)
    clear hb4
    clear p0 p1 p2 p3 p4 p5 p6 a0 a1 a2 pz az
    have p0 := HBP.out.1 0 _ rfl
    have p1 := HBP.out.1 1 _ rfl
    have p2 := HBP.out.1 2 _ rfl
    have p3 := HBP.out.1 3 _ rfl
    have p4 := HBP.out.1 4 _ rfl
    have p5 := HBP.out.1 5 _ rfl
    have p6 := HBP.out.1 6 _ rfl
    have a0 := HBA.out.1 0 _ rfl
    have a1 := HBA.out.1 1 _ rfl
    have a2 := HBA.out.1 2 _ rfl
    have pz := HBP.out.2.2
    have az := HBA.out.2.2
    go_wp2_with fail
    go_ret
    exact ⟨rfl, HBE.out⟩
  rw [if_pos h2] at hE
  subst h2
  by_cases h3 : B1 = M
  · rw [if_pos h3] at hE
    subst hE
    have e3 : (B1 == M) = true := by simpa using h3
    have e4 : (B1 != M) = false := by simpa using h3
    clear h3
    go_enter Try.func20, Try.ntmps20
    go_wp2_with fail
    refine (hA.out _ (((Below.refl _ _).alloc (Nat.le_refl _) _).alloc (by simp) _)).mono ?_
    rintro e w2 ⟨rfl, hb2⟩
    have HBE : Hid (Below w.heap.size w w2) := Lib.hid ((((Below.refl _ _).alloc (Nat.le_refl _) _).alloc (by simp) _).trans (hb2.mono (by simp; omega)))
    have HBP := Lib.hid (((Bx.new w (pgC p ⟨A, p.reqs.length, c⟩) 26).alloc (.cells #[.slice D us.length d, .int .i64 M, .slice C cs.length cc] 39)).step hb2)
    have HBA := Lib.hid ((Bx.at_ (w.alloc (.cells #[.string p.nm, .int .i64 p.number, .int .i64 p.uses, .int .i64 p.earn, .int .i64 p.mean.num, .int .i64 p.mean.den, .slice A p.reqs.length c] 26)) [.slice D us.length d, .int .i64 M, .slice C cs.length cc] 39 (w.heap.size + 1) (by simp)).step hb2)
    clear hb2
    have p0 := HBP.out.1 0 _ rfl
    have p1 := HBP.out.1 1 _ rfl
    have p2 := HBP.out.1 2 _ rfl
    have p3 := HBP.out.1 3 _ rfl
    have p4 := HBP.out.1 4 _ rfl
    have p5 := HBP.out.1 5 _ rfl
    have p6 := HBP.out.1 6 _ rfl
    have a0 := HBA.out.1 0 _ rfl
    have a1 := HBA.out.1 1 _ rfl
    have a2 := HBA.out.1 2 _ rfl
    have pz := HBP.out.2.2
    have az := HBA.out.2.2
    go_wp2_with fail
    refine (hM.out _ HBE.out).mono ?_
    rw [HMI.out]
    rintro e w3 ⟨rfl, hb3⟩
    have HBE := Lib.hid (HBE.out.trans (hb3.mono HBE.out.size))
    have HBP := Lib.hid (HBP.out.step hb3)
    have HBA := Lib.hid (HBA.out.step hb3)
    clear hb3
    clear p0 p1 p2 p3 p4 p5 p6 a0 a1 a2 pz az
    have p0 := HBP.out.1 0 _ rfl
    have p1 := HBP.out.1 1 _ rfl
    have p2 := HBP.out.1 2 _ rfl
    have p3 := HBP.out.1 3 _ rfl
    have p4 := HBP.out.1 4 _ rfl
    have p5 := HBP.out.1 5 _ rfl
    have p6 := HBP.out.1 6 _ rfl
    have a0 := HBA.out.1 0 _ rfl
    have a1 := HBA.out.1 1 _ rfl
    have a2 := HBA.out.1 2 _ rfl
    have pz := HBP.out.2.2
    have az := HBA.out.2.2
    go_wp2_with fail
    refine (hB.out _ HBE.out).mono ?_
    rintro e w4 ⟨rfl, hb4⟩
    have HBE := Lib.hid (HBE.out.trans (hb4.mono HBE.out.size))
    have HBP := Lib.hid (HBP.out.step hb4)
    have HBA := Lib.hid (HBA.out.step hb4)
    clear hb4
    clear p0 p1 p2 p3 p4 p5 p6 a0 a1 a2 pz az
    have p0 := HBP.out.1 0 _ rfl
    have p1 := HBP.out.1 1 _ rfl
    have p2 := HBP.out.1 2 _ rfl
    have p3 := HBP.out.1 3 _ rfl
    have p4 := HBP.out.1 4 _ rfl
    have p5 := HBP.out.1 5 _ rfl
    have p6 := HBP.out.1 6 _ rfl
    have a0 := HBA.out.1 0 _ rfl
    have a1 := HBA.out.1 1 _ rfl
    have a2 := HBA.out.1 2 _ rfl
    have pz := HBP.out.2.2
    have az := HBA.out.2.2
    go_wp2_with fail
    go_ret
    exact ⟨rfl, HBE.out⟩
  · rw [if_neg h3] at hE
    subst hE
    have e3 : (B1 == M) = false := by simpa using h3
    have e4 : (B1 != M) = true := by simpa using h3
    clear h3
    go_enter Try.func20, Try.ntmps20
    go_wp2_with fail
    refine (hA.out _ (((Below.refl _ _).alloc (Nat.le_refl _) _).alloc (by simp) _)).mono ?_
    rintro e w2 ⟨rfl, hb2⟩
    have HBE : Hid (Below w.heap.size w w2) := Lib.hid ((((Below.refl _ _).alloc (Nat.le_refl _) _).alloc (by simp) _).trans (hb2.mono (by simp; omega)))
    have HBP := Lib.hid (((Bx.new w (pgC p ⟨A, p.reqs.length, c⟩) 26).alloc (.cells #[.slice D us.length d, .int .i64 M, .slice C cs.length cc] 39)).step hb2)
    have HBA := Lib.hid ((Bx.at_ (w.alloc (.cells #[.string p.nm, .int .i64 p.number, .int .i64 p.uses, .int .i64 p.earn, .int .i64 p.mean.num, .int .i64 p.mean.den, .slice A p.reqs.length c] 26)) [.slice D us.length d, .int .i64 M, .slice C cs.length cc] 39 (w.heap.size + 1) (by simp)).step hb2)
    clear hb2
    have p0 := HBP.out.1 0 _ rfl
    have p1 := HBP.out.1 1 _ rfl
    have p2 := HBP.out.1 2 _ rfl
    have p3 := HBP.out.1 3 _ rfl
    have p4 := HBP.out.1 4 _ rfl
    have p5 := HBP.out.1 5 _ rfl
    have p6 := HBP.out.1 6 _ rfl
    have a0 := HBA.out.1 0 _ rfl
    have a1 := HBA.out.1 1 _ rfl
    have a2 := HBA.out.1 2 _ rfl
    have pz := HBP.out.2.2
    have az := HBA.out.2.2
    go_wp2_with fail
    refine (hM.out _ HBE.out).mono ?_
    rw [HMI.out]
    rintro e w3 ⟨rfl, hb3⟩
    have HBE := Lib.hid (HBE.out.trans (hb3.mono HBE.out.size))
    have HBP := Lib.hid (HBP.out.step hb3)
    have HBA := Lib.hid (HBA.out.step hb3)
    clear hb3
    clear p0 p1 p2 p3 p4 p5 p6 a0 a1 a2 pz az
    have p0 := HBP.out.1 0 _ rfl
    have p1 := HBP.out.1 1 _ rfl
    have p2 := HBP.out.1 2 _ rfl
    have p3 := HBP.out.1 3 _ rfl
    have p4 := HBP.out.1 4 _ rfl
    have p5 := HBP.out.1 5 _ rfl
    have p6 := HBP.out.1 6 _ rfl
    have a0 := HBA.out.1 0 _ rfl
    have a1 := HBA.out.1 1 _ rfl
    have a2 := HBA.out.1 2 _ rfl
    have pz := HBP.out.2.2
    have az := HBA.out.2.2
    go_wp2_with fail
    refine (hB.out _ HBE.out).mono ?_
    rintro e w4 ⟨rfl, hb4⟩
    have HBE := Lib.hid (HBE.out.trans (hb4.mono HBE.out.size))
    have HBP := Lib.hid (HBP.out.step hb4)
    have HBA := Lib.hid (HBA.out.step hb4)
    clear hb4
    clear p0 p1 p2 p3 p4 p5 p6 a0 a1 a2 pz az
    have p0 := HBP.out.1 0 _ rfl
    have p1 := HBP.out.1 1 _ rfl
    have p2 := HBP.out.1 2 _ rfl
    have p3 := HBP.out.1 3 _ rfl
    have p4 := HBP.out.1 4 _ rfl
    have p5 := HBP.out.1 5 _ rfl
    have p6 := HBP.out.1 6 _ rfl
    have a0 := HBA.out.1 0 _ rfl
    have a1 := HBA.out.1 1 _ rfl
    have a2 := HBA.out.1 2 _ rfl
    have pz := HBP.out.2.2
    have az := HBA.out.2.2
    go_wp2_with fail
    go_ret
    exact ⟨rfl, HBE.out⟩

end Go.Proofs.Ytgimpbcdgfkdmaa
