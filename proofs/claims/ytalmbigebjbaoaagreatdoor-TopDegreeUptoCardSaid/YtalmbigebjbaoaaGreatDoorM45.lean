/- TopDegree, what its proof leans on: the texts TpK. -/
import Derived.Test.YtalmbigebjbaoaaGreatDoorM44
import Derived.Deep.CutBlock
import Derived.Deep.CutRange
import Derived.BigRegion
namespace Go.Proofs.YtalmbigebjbaoaaGreatDoor
open Go.RowKit Go.Shelf
set_option linter.unusedSimpArgs false
set_option linter.unusedVariables false
attribute [local go_sem] Oper.semAt_some
set_option maxRecDepth 100000 in
set_option maxHeartbeats 16000000 in
theorem dgOf_none {n₀ : Nat} (d : Wd) (student num term known : Int) (w : World) (hd : d.Ok w (fun k => k < n₀)) (hki : KindsAt w) (h0 : 0 < n₀) (hn : n₀ ≤ w.heap.size) (hf : d.fs.length ≤ 100) (hfw : ∀ x ∈ d.cs, Cr.Few x) (hv : ∀ f ∈ d.fs, f.val ≤ 9223372036854775807)
 (hpf : progF d num term known = none) :
 Calls Tryz.prog 6 #[d.v, .int .i64 student, .int .i64 num, .int .i64 term, .int .i64 known] w fun e w' => OfOut d student num term known w w' e ∧ Below w.heap.size w w' := by
 have HD := Lib.hid hd
 have HKI := Lib.hid hki
 have hmf : ∀ (fn : Fn) (first cap : Array Value) (w : World), (Instr.makeFunc fn first cap).run Tryz.prog w = .ok (.func fn first cap) w := fun _ _ _ _ => rfl
 unfold Wd.v
 clear hd hki
 refine (callsIn_wide (n := 6)).1 ?_
 refine callsIn_of_wp_marks Tryz.func6 rfl trivial ?_ rfl
 simp only [Tryz.ntmps6, List.size_toArray, List.length_cons, List.length_nil, Nat.reduceAdd, Nat.reduceSub, Array.replicate_succ, Array.replicate_zero, List.push_toArray, List.append_toArray, List.nil_append, List.cons_append]
 refine wpIn_wide.2 ?_
 go_wp2_with fail
 obtain ⟨W1, hW1⟩ : ∃ X, X = ((((w.alloc (.cells #[.slice d.c.a d.c.n d.c.c, .slice d.p.a d.p.n d.p.c, .slice d.y.a d.y.n d.y.c, .slice d.f.a d.f.n d.f.c] 29)).alloc (.cells #[.slice none 0 0, .int .i64 0, .slice none 0 0] 35)).alloc (.cells #[.bool false] 4)).alloc (.cells #[.slice none 0 0] 36)).alloc (.cells #[.int .i64 0] 37) := ⟨_, rfl⟩
 have q0 : Bx W1 w.heap.size d.enc := by rw [hW1]; exact ((((Bx.new w d.enc _).alloc _).alloc _).alloc _).alloc _
 have q1 : Bx W1 (w.heap.size + 1) [.slice none 0 0, .int .i64 0, .slice none 0 0] := by rw [hW1]; exact (((Bx.at_ _ [.slice none 0 0, .int .i64 0, .slice none 0 0] _ _ (by simp)).alloc _).alloc _).alloc _
 have q2 : Bx W1 (w.heap.size + 2) [.bool false] := by rw [hW1]; exact ((Bx.at_ _ [.bool false] _ _ (by simp)).alloc _).alloc _
 have q3 : Bx W1 (w.heap.size + 3) [.slice none 0 0] := by rw [hW1]; exact (Bx.at_ _ [.slice none 0 0] _ _ (by simp)).alloc _
 have q4 : Bx W1 (w.heap.size + 4) [.int .i64 0] := by rw [hW1]; exact Bx.at_ _ [.int .i64 0] _ _ (by simp)
 have hz1 : W1.heap.size = w.heap.size + 5 := by rw [hW1]; simp
 have hb1 : Below w.heap.size w W1 := by
  rw [hW1]
  exact (((((Below.refl _ w).alloc (Nat.le_refl _) _).alloc (by simp) _).alloc (by simp; omega) _).alloc (by simp; omega) _).alloc (by simp; omega) _
 obtain ⟨b5, hb5⟩ : ∃ b, b = w.heap.size := ⟨_, rfl⟩
 obtain ⟨bA, hbA⟩ : ∃ b, b = w.heap.size + 1 := ⟨_, rfl⟩
 obtain ⟨bC, hbC⟩ : ∃ b, b = w.heap.size + 1 + 1 := ⟨_, rfl⟩
 obtain ⟨bR, hbR⟩ : ∃ b, b = w.heap.size + 1 + 1 + 1 := ⟨_, rfl⟩
 obtain ⟨bE, hbE⟩ : ∃ b, b = w.heap.size + 1 + 1 + 1 + 1 := ⟨_, rfl⟩
 have HQ : Hid (b5 = w.heap.size ∧ bA = w.heap.size + 1 ∧ bC = w.heap.size + 2 ∧ bR = w.heap.size + 3 ∧ bE = w.heap.size + 4) := Lib.hid ⟨hb5, hbA, hbC, hbR, hbE⟩
 rw [← hW1, ← hbE, ← hbR, ← hbC, ← hbA]
 rw [← hb5] at q0
 rw [← hbA] at q1
 rw [show w.heap.size + 2 = bC by omega] at q2
 rw [show w.heap.size + 3 = bR by omega] at q3
 rw [show w.heap.size + 4 = bE by omega] at q4
 have H0 := Lib.hid q0
 have HA := Lib.hid q1
 have HC := Lib.hid q2
 have HR := Lib.hid q3
 have HE := Lib.hid q4
 have HB := Lib.hid hb1
 have HZ := Lib.hid hz1
 have HPG := Lib.hid (bkProgramme_any d num term known W1 (HD.out.step hb1) (by omega))
 obtain ⟨J, hJ⟩ : ∃ J : Ending → World → Prop, J = fun e w' => OfOut d student num term known w w' e ∧ Below w.heap.size w w' := ⟨_, rfl⟩
 clear hW1 hb5 hbA hbC hbR hbE q0 q1 q2 q3 q4 hb1 hz1
 ·have HPF := Lib.hid hpf
  rw [hpf] at HPG
  refine HPG.out.mono ?_
  clear hpf
  rintro e w2 ⟨⟨s, rfl, xs, hs, hxl⟩, hb2⟩
  obtain ⟨sA, sn, sc⟩ := s
  have hsn : sn = xs.length := hs.1
  subst hsn
  have HS := Lib.hid hs
  have HB2 := Lib.hid hb2
  clear hs hb2
  go_wp2_with fail
  obtain ⟨W3, hW3⟩ : ∃ X, X = w2.alloc (.cells #[.string ⟨#[]⟩, .int .i64 0, .int .i64 0, .int .i64 0, .int .i64 0, .int .i64 0, .slice none 0 0] 44) := ⟨_, rfl⟩
  have hb3 : Below W1.heap.size W1 W3 := by rw [hW3]; exact HB2.out.alloc HB2.out.size _
  have hst : Below w2.heap.size w2 W3 := by rw [hW3]; exact (Below.refl _ _).alloc (Nat.le_refl _) _
  rw [← hW3]
  have HB3 := Lib.hid hb3
  have HAD := Lib.hid (ofAdd_any bR (w.heap.size + 5) (.slice none 0 0) [] xs sA sc W3 (HR.out.step hb3) (by have := HQ.out; omega) (Owns.nil_ _ _ _ _ _) ((HS.out.step hst).reads) HS.out.2.2.2.1 (by simp; omega) (by have := hb3.size; have := HZ.out; omega))
  clear hW3 hb3 hst
  refine HAD.out.mono ?_
  rintro e w4 ⟨rfl, v', hR4, hO4, hown, hsz, hos, htp, hou, hblk⟩
  have hz3 := HB3.out.size
  have HBB : Hid (∀ k, k < w.heap.size + 5 → k ≠ bR → w4.heap[k]? = W1.heap[k]?) := Lib.hid (fun k hk hne => (hblk k (by have := HZ.out; omega) hne (by simp [Value.ownBlock])).trans (HB3.out.block k (by have := HZ.out; omega)))
  have hz4 : w.heap.size + 5 ≤ w4.heap.size := by have := HZ.out; omega
  have HW4 : Hid (Below w.heap.size w w4) := Lib.hid ⟨hos.trans (HB3.out.os.trans HB.out.os), htp.trans (HB3.out.tape.trans HB.out.tape), hou.trans (HB3.out.output.trans HB.out.output), by omega, fun k hk => (HBB.out k (by omega) (by have := HQ.out; omega)).trans (HB.out.block k hk)⟩
  have kpt : ∀ {b : Nat} {cs : List Value}, Bx W1 b cs → b < w.heap.size + 5 → b ≠ bR → Bx w4 b cs := fun {b cs} hx hl hne => hx.keep (P := fun y => y = b) ⟨by have := HZ.out; omega, fun k e _ => by subst e; exact HBB.out k hl hne⟩ rfl
  have HA4 := Lib.hid (kpt HA.out (by have := HQ.out; omega) (by have := HQ.out; omega))
  have HC4 := Lib.hid (kpt HC.out (by have := HQ.out; omega) (by have := HQ.out; omega))
  have HE4 := Lib.hid (kpt HE.out (by have := HQ.out; omega) (by have := HQ.out; omega))
  have HR4 := Lib.hid hR4
  obtain ⟨Av, cv, rfl, _, _⟩ := hO4.shape
  obtain ⟨x0, x1, x2⟩ := HA4.out
  obtain ⟨y0, y1, y2⟩ := HC4.out
  obtain ⟨z0, z1, z2⟩ := HR4.out
  obtain ⟨u0, u1, u2⟩ := HE4.out
  have p0 := x0 0 _ rfl
  have p1 := x0 1 _ rfl
  have p2 := x0 2 _ rfl
  have f0 := x1 0
  have f1 := x1 1
  have f2 := x1 2
  have p3 := y0 0 _ rfl
  have f3 := y1 0
  have p4 := z0 0 _ rfl
  have f4 := z1 0
  have p5 := u0 0 _ rfl
  have f5 := u1 0
  have n1 : bA ≠ bC := by have := HQ.out; omega
  have n2 : bA ≠ bR := by have := HQ.out; omega
  have n3 : bA ≠ bE := by have := HQ.out; omega
  have n4 : bC ≠ bR := by have := HQ.out; omega
  have n5 : bC ≠ bE := by have := HQ.out; omega
  have n6 : bR ≠ bE := by have := HQ.out; omega
  clear x0 x1 y0 y1 z0 z1 u0 u1 hR4 hO4 hown hos htp hou hblk kpt hsz
  go_upto_region 6 with fail
  go_region
  obtain ⟨W6, hW6⟩ : ∃ X, X = sixW w4 bA bC bR bE (.slice none 0 0) (.int .i64 0) (.slice none 0 0) (.bool false) (.slice Av xs.length cv) (.int .i64 0) := ⟨_, rfl⟩
  obtain ⟨g1, g2, g3, g4, g5, g6, g7⟩ := six_set HA4.out HC4.out HR4.out HE4.out (by have := HQ.out; omega) (by have := HQ.out; omega) (by have := HQ.out; omega) (.slice none 0 0) (.int .i64 0) (.slice none 0 0) (.bool false) (.slice Av xs.length cv) (.int .i64 0)
  rw [← hW6] at g1 g2 g3 g4 g5
  have HG := Lib.hid (And.intro g1 (And.intro g2 (And.intro g3 (And.intro g4 g5))))
  change Exit.then _ _ _ _ (sixW w4 bA bC bR bE (.slice none 0 0) (.int .i64 0) (.slice none 0 0) (.bool false) (.slice Av xs.length cv) (.int .i64 0))
  rw [← hW6]
  clear hW6 g1 g2 g3 g4 g5 g6 g7 p0 p1 p2 p3 p4 p5 f0 f1 f2 f3 f4 f5
  go_wp2_with fail
  refine ⟨by simp, .inr ⟨fun h => by simp [Fence.wide] at h, _, _, 19, #[.pointer (some ⟨bA, 0, none⟩), .pointer (some ⟨bC, 0, none⟩), .pointer (some ⟨bR, 0, none⟩), .pointer (some ⟨bE, 0, none⟩)], rfl, rfl, fun _ _ => trivial, (of_idle 5 _ _ _ _ _).mono ?_⟩⟩
  rintro e u' w9 ⟨rfl, rfl, rfl⟩
  obtain ⟨g1, g2, g3, g4, g5⟩ := HG.out
  have k0 := g1.1 0 _ rfl
  have k1 := g1.1 1 _ rfl
  have k2 := g1.1 2 _ rfl
  have k3 := g2.1 0 _ rfl
  have k4 := g3.1 0 _ rfl
  have k5 := g4.1 0 _ rfl
  show LeavesInM _ _ _ _ _ _ [] (settle .returning) _
  refine ⟨.tuple #[.agg #[.slice none 0 0, .int .i64 0, .slice none 0 0], .bool false, .slice Av xs.length cv, .int .i64 0], by simp [results, Tryz.results6, go_sem, k0, k1, k2, k3, k4, k5], ?_, ?_⟩
  ·exact .inl ⟨_, 0, rfl, .inl HPF.out⟩
  ·exact HW4.out.trans (g5 _ (by have := HQ.out; omega))
end Go.Proofs.YtalmbigebjbaoaaGreatDoor
