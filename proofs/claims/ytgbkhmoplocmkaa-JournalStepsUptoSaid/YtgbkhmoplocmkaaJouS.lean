/- sane: the examples of chapter 46. (printed by gen_jouS.py) -/
import Derived.Test.YtgbkhmoplocmkaaJouO
import Derived.Test.YtgbkhmoplocmkaaDskP
import Derived.Deep.RegionHeld3
import Derived.Lib.SlBytesConst
namespace Go.Proofs.Ytgbkhmoplocmkaa
open Go.RowKit Go.Shelf
set_option linter.unusedSimpArgs false
set_option linter.unusedVariables false
set_option maxRecDepth 20000

def zeros113 : List Int := List.replicate 113 0
def zero113 : Array Value := (zeros113.map (Value.int .u8)).toArray
theorem zeros113_len : zeros113.length = 113 := by simp [zeros113]
theorem zeros113_ok : ∀ b ∈ zeros113, 0 ≤ b ∧ b < 256 := by
  intro b hb
  rw [(List.mem_replicate.1 hb).2]; omega
theorem make113 (W : World) : (Instr.makeSlice 35 (.int .i64 113) (.int .i64 113)).run Try.prog W = .ok (.slice (some ⟨W.heap.size, 0, none⟩) 113 113) (W.alloc (.cells zero113 5)) := by
  obtain ⟨i0, hinf, hz0, hz1, hz2⟩ := info_parts Try.infoByte
  have h := run_make (P := Try.prog) W 35 5 i0 (.int .u8 0) Try.underlying35 hinf hz0 .i64 .i64 113 113 (by decide) (by decide) (by rw [hz2]; decide) (by decide)
  rw [h, hz1]
  have e : madeCells (Value.int .u8 0).cells (Int.toNat 113 * 1) = zero113 := by
    rw [made_one _ _ rfl]
    unfold zero113 zeros113
    rw [List.map_replicate]
    rfl
  rw [e]
  rfl
theorem zero113_by (w : World) (P : Nat → Prop) (hP : P w.heap.size) : By (w.alloc (.cells zero113 5)) P ⟨some ⟨w.heap.size, 0, none⟩, 113, 113⟩ zeros113 := by
  have h := by_block (P := P) (heap_alloc_new w (.cells zero113 5)) hP (by rw [zeros113_len]; decide) zeros113_ok
  rw [zeros113_len] at h
  exact h
theorem by_block_fr {w : World} {P : Nat → Prop} {g : Nat} {bs : List Int} {t : TypeId} {fr : Nat × Nat} (hg : w.heap[g]? = some (.cells (bs.map (Value.int .u8)).toArray t fr)) (hP : P g) (hl : bs.length ≤ maxLen) (hb : ∀ b ∈ bs, 0 ≤ b ∧ b < 256) : By w P ⟨some ⟨g, 0, none⟩, bs.length, bs.length⟩ bs := by
  refine ⟨⟨rfl, Nat.le_refl _, hl, (fun h => by cases h), fun hn => ⟨g, 0, rfl, (Array.getElem?_eq_some_iff.1 hg).1, fun i x j v hi hj => ?_⟩, fun _ a e => by cases e; exact hP⟩, hb⟩
  cases j with
  | zero =>
    simp only [byteE, List.getElem?_cons_zero, Option.some.injEq] at hj
    subst hj
    simp [World.cell?, hg, hi]
  | succ j => simp [byteE] at hj
theorem two_by (w : World) (P : Nat → Prop) (hP : P w.heap.size) : By (w.alloc (.cells #[.int .u8 97, .int .u8 98] 5 (2, 3))) P ⟨some ⟨w.heap.size, 0, none⟩, 2, 2⟩ [97, 98] :=
  by_block_fr (P := P) (bs := [97, 98]) (heap_alloc_new w (.cells #[.int .u8 97, .int .u8 98] 5 (2, 3))) hP (by simp [maxLen]) (by simp)
def saneD : Dk := (newD 1).1
def saneJ : Jl := ⟨[[97, 98]], 1, 0⟩
def saneC : Dk := (syncJ saneJ saneD).2.1
theorem sane_new : newD 1 = (saneD, 0) := by decide +kernel
theorem sane_open : openJ saneD = (⟨[], 1, 0⟩, 0) := by decide +kernel
theorem sane_full : appendJ ⟨[], 1, 0⟩ zeros113 = (Jl.zero, 2) := by decide +kernel
theorem sane_put : appendJ ⟨[], 1, 0⟩ [97, 98] = (saneJ, 0) := by decide +kernel
theorem sane_sync : syncJ saneJ saneD = (⟨[[97, 98]], 1, 1⟩, saneC, 0) := by decide +kernel
theorem sane_open2 : openJ saneC = (⟨[[97, 98]], 1, 1⟩, 0) := by decide +kernel
theorem sane_twice : syncJ saneJ saneC = (Jl.zero, Dk.zero, 460) := by decide +kernel
theorem sane_room : roomJ ⟨[], 1, 0⟩ = 112 := by decide +kernel
theorem sane_chk : checkJ Jl.zero = 1 := by decide +kernel
def TT : Nat → Prop := fun _ => True
theorem sNew (w : World) : Calls Try.prog 25 #[.int .i64 1] w fun e w' => (∃ s p : Sl, e = .returned (.tuple #[.agg #[.slice s.a s.n s.c, .slice p.a p.n p.c, .int .i64 saneD.left, .bool saneD.stopped], .int .i64 0]) ∧ Di w' TT s p saneD) ∧ Below w.heap.size w w' := by
  refine (New_any 1 (by decide) w).mono ?_
  rw [sane_new]
  rintro e w' ⟨⟨s, p, rfl, h⟩, hb⟩
  exact ⟨⟨s, p, rfl, h.mono (fun _ _ => trivial)⟩, hb⟩
theorem sOpen (s p : Sl) (w : World) (h : Di w TT s p saneD) : Calls Try.prog 12 #[.agg #[.slice s.a s.n s.c, .slice p.a p.n p.c, .int .i64 saneD.left, .bool saneD.stopped]] w fun e w' => (∃ r : Sl, e = .returned (.tuple #[.agg #[.slice r.a r.n r.c, .int .i64 1, .int .i64 0], .int .i64 0]) ∧ Se w' TT r []) ∧ Below w.heap.size w w' := by
  have h1 := Open_any saneD s p w h
  rw [sane_open] at h1
  refine h1.mono ?_
  rintro e w' ⟨⟨r, rfl, h⟩, hb⟩
  exact ⟨⟨r, rfl, h.mono (fun _ _ => trivial)⟩, hb⟩
theorem sFull (r v : Sl) (w : World) (h : Se w TT r []) (hv : By w TT v zeros113) : Calls Try.prog 15 #[.agg #[.slice r.a r.n r.c, .int .i64 1, .int .i64 0], .slice v.a v.n v.c] w fun e w' => (∃ q : Sl, e = .returned (.tuple #[.agg #[.slice q.a q.n q.c, .int .i64 0, .int .i64 0], .int .i64 2])) ∧ Below w.heap.size w w' := by
  have h1 := JAppend_any ⟨[], 1, 0⟩ r v zeros113 w h hv (by decide) (by rw [sane_full]; intro h; cases h)
  rw [sane_full] at h1
  refine h1.mono ?_
  rintro e w' ⟨⟨r, rfl, h⟩, hb⟩
  exact ⟨⟨r, rfl⟩, hb⟩
theorem sPut (r v : Sl) (w : World) (h : Se w TT r []) (hv : By w TT v [97, 98]) : Calls Try.prog 15 #[.agg #[.slice r.a r.n r.c, .int .i64 1, .int .i64 0], .slice v.a v.n v.c] w fun e w' => (∃ q : Sl, e = .returned (.tuple #[.agg #[.slice q.a q.n q.c, .int .i64 1, .int .i64 0], .int .i64 0]) ∧ Se w' TT q [[97, 98]]) ∧ Below w.heap.size w w' := by
  have h1 := JAppend_any ⟨[], 1, 0⟩ r v [97, 98] w h hv (by decide) (by intro _; decide)
  rw [sane_put] at h1
  refine h1.mono ?_
  rintro e w' ⟨⟨r, rfl, h⟩, hb⟩
  exact ⟨⟨r, rfl, h.mono (fun _ _ => trivial)⟩, hb⟩
theorem sSync (q s p : Sl) (w : World) (h : Se w TT q [[97, 98]]) (hd : Di w TT s p saneD) : Calls Try.prog 21 #[.agg #[.slice q.a q.n q.c, .int .i64 1, .int .i64 0], .agg #[.slice s.a s.n s.c, .slice p.a p.n p.c, .int .i64 saneD.left, .bool saneD.stopped]] w fun e w' => (∃ y s2 p2 : Sl, e = .returned (.tuple #[.agg #[.slice y.a y.n y.c, .int .i64 1, .int .i64 1], .agg #[.slice s2.a s2.n s2.c, .slice p2.a p2.n p2.c, .int .i64 saneC.left, .bool saneC.stopped], .int .i64 0]) ∧ Di w' TT s2 p2 saneC) ∧ Below w.heap.size w w' := by
  have h1 := JSync_any saneJ saneD q s p w h hd
  rw [sane_sync] at h1
  refine h1.mono ?_
  rintro e w' ⟨⟨y, s2, p2, rfl, _, h⟩, hb⟩
  exact ⟨⟨y, s2, p2, rfl, h.mono (fun _ _ => trivial)⟩, hb⟩
theorem sOpen2 (s p : Sl) (w : World) (h : Di w TT s p saneC) : Calls Try.prog 12 #[.agg #[.slice s.a s.n s.c, .slice p.a p.n p.c, .int .i64 saneC.left, .bool saneC.stopped]] w fun e w' => (∃ r : Sl, e = .returned (.tuple #[.agg #[.slice r.a r.n r.c, .int .i64 1, .int .i64 1], .int .i64 0]) ∧ Se w' TT r [[97, 98]]) ∧ Below w.heap.size w w' := by
  have h1 := Open_any saneC s p w h
  rw [sane_open2] at h1
  refine h1.mono ?_
  rintro e w' ⟨⟨r, rfl, h⟩, hb⟩
  exact ⟨⟨r, rfl, h.mono (fun _ _ => trivial)⟩, hb⟩
theorem sTwice (q s p : Sl) (w : World) (h : Se w TT q [[97, 98]]) (hd : Di w TT s p saneC) : Calls Try.prog 21 #[.agg #[.slice q.a q.n q.c, .int .i64 1, .int .i64 0], .agg #[.slice s.a s.n s.c, .slice p.a p.n p.c, .int .i64 saneC.left, .bool saneC.stopped]] w fun e w' => (∃ y s2 p2 : Sl, e = .returned (.tuple #[.agg #[.slice y.a y.n y.c, .int .i64 0, .int .i64 0], .agg #[.slice s2.a s2.n s2.c, .slice p2.a p2.n p2.c, .int .i64 0, .bool false], .int .i64 460])) ∧ Below w.heap.size w w' := by
  have h1 := JSync_any saneJ saneC q s p w h hd
  rw [sane_twice] at h1
  refine h1.mono ?_
  rintro e w' ⟨⟨y, s2, p2, rfl, _, h⟩, hb⟩
  exact ⟨⟨y, s2, p2, rfl⟩, hb⟩
theorem sRoom (r : Sl) (w : World) (h : Se w TT r []) : Calls Try.prog 19 #[.agg #[.slice r.a r.n r.c, .int .i64 1, .int .i64 0]] w fun e w' => e = .returned (.int .i64 112) ∧ Below w.heap.size w w' := by
  have h1 := JRoom_any ⟨[], 1, 0⟩ r w h
  rw [sane_room] at h1
  exact h1
theorem sChk (w : World) : Calls Try.prog 17 #[.agg #[.slice none 0 0, .int .i64 0, .int .i64 0]] w fun e w' => e = .returned (.int .i64 1) ∧ Below w.heap.size w w' := by
  have h1 := JCheck_any Jl.zero ⟨none, 0, 0⟩ w (Se.nil_ w TT)
  rw [sane_chk] at h1
  exact h1
theorem chain3_below {B b : Nat} {w W : World} (h : Below B w W) (hb : B ≤ b) (v0 v1 v2 : Value) : Below B w (((W.setCell ⟨b, 0, none⟩ v0).setCell ⟨b, 1, none⟩ v1).setCell ⟨b, 2, none⟩ v2) := put3_below h hb v0 v1 v2
theorem strAB : strOfNums [97, 98] = { data := #[97, 98] } := by decide +kernel

set_option maxRecDepth 100000 in
set_option maxHeartbeats 16000000 in
theorem sane_any (w : World) : Calls Try.prog 10 #[] w fun e w' => e = .returned (.bool true) ∧ Below w.heap.size w w' := by
  go_enter Try.func10, Try.ntmps10
  have ba : Hid (Below w.heap.size w w) := Lib.hid (Below.refl _ _)
  go_wp2_with fail
  refine (sNew _).mono ?_
  rintro e w1 ⟨⟨s1, p1, rfl, hd1⟩, hb_w1⟩
  have S_w1 : Below w.heap.size w w1 := (Below.refl _ w).trans (hb_w1.mono (by (try simp) <;> omega))
  have ba := Lib.hid (ba.out.trans (S_w1.mono ba.out.size))
  have z_w1 := S_w1.size
  have HD1 := Lib.hid (hd1)
  clear hd1
  go_upto_region 2 with fail
  obtain ⟨W1, hW1⟩ : ∃ X, X = w1.alloc (.cells #[.slice s1.a s1.n s1.c, .slice p1.a p1.n p1.c, .int .i64 saneD.left, .bool saneD.stopped] 25) := ⟨_, rfl⟩
  rw [← hW1]
  have hb_W1 : Below w1.heap.size w1 W1 := by rw [hW1]; exact (Below.refl _ _).alloc (Nat.le_refl _) _
  have N_X1 : Box4 W1 w1.heap.size (.slice s1.a s1.n s1.c) (.slice p1.a p1.n p1.c) (.int .i64 saneD.left) (.bool saneD.stopped) := by rw [hW1]; exact Box4.new ..
  clear hW1
  have S_W1 : Below w1.heap.size w1 W1 := (Below.refl _ w1).trans (hb_W1.mono (by (try simp) <;> omega))
  have ba := Lib.hid (ba.out.trans (S_W1.mono ba.out.size))
  have HD1 := Lib.hid (HD1.out.step S_W1)
  have z_W1 := S_W1.size
  have X1 := Lib.hid (N_X1)
  clear N_X1
  obtain ⟨X1_0, X1_1, X1_2, X1_3, X1_f0, X1_f1, X1_f2, X1_f3, X1_z⟩ := X1.out
  go_wp2_with fail
  refine (sOpen s1 p1 _ HD1.out).mono ?_
  rintro e w2 ⟨⟨r3, rfl, hr3⟩, hb_w2⟩
  have S_w2 : Below W1.heap.size W1 w2 := (Below.refl _ W1).trans (hb_w2.mono (by (try simp) <;> omega))
  have ba := Lib.hid (ba.out.trans (S_w2.mono ba.out.size))
  have HD1 := Lib.hid (HD1.out.step S_w2)
  have X1 := Lib.hid (X1.out.step S_w2)
  have z_w2 := S_w2.size
  have HR3 := Lib.hid (hr3)
  clear hr3
  clear X1_0 X1_1 X1_2 X1_3 X1_f0 X1_f1 X1_f2 X1_f3 X1_z
  go_upto_region 3 with fail
  obtain ⟨W2, hW2⟩ : ∃ X, X = w2.alloc (.cells #[.slice r3.a r3.n r3.c, .int .i64 1, .int .i64 0] 29) := ⟨_, rfl⟩
  rw [← hW2]
  have hb_W2 : Below w2.heap.size w2 W2 := by rw [hW2]; exact (Below.refl _ _).alloc (Nat.le_refl _) _
  have N_X3 : Box3 W2 w2.heap.size (.slice r3.a r3.n r3.c) (.int .i64 1) (.int .i64 0) := by rw [hW2]; exact Box3.new ..
  clear hW2
  have S_W2 : Below w2.heap.size w2 W2 := (Below.refl _ w2).trans (hb_W2.mono (by (try simp) <;> omega))
  have ba := Lib.hid (ba.out.trans (S_W2.mono ba.out.size))
  have HD1 := Lib.hid (HD1.out.step S_W2)
  have X1 := Lib.hid (X1.out.step S_W2)
  have HR3 := Lib.hid (HR3.out.step S_W2)
  have z_W2 := S_W2.size
  have X3 := Lib.hid (N_X3)
  clear N_X3
  have hmk9 := make113
  have sS : ∀ W, Below W2.heap.size W2 W → (W.cell? ⟨w2.heap.size, 0, none⟩ = some (.slice r3.a r3.n r3.c) ∧ W.cell? ⟨w2.heap.size, 1, none⟩ = some (.int .i64 1) ∧ W.cell? ⟨w2.heap.size, 2, none⟩ = some (.int .i64 0) ∧ Below W2.heap.size W2 W) := fun W h => ⟨(X3.out.step h).c0, (X3.out.step h).c1, (X3.out.step h).c2, h⟩
  have CW : ∀ Wc blk, Below W2.heap.size W2 Wc → By Wc TT ⟨some ⟨blk, 0, none⟩, 113, 113⟩ zeros113 → Calls Try.prog 15 #[.agg #[.slice r3.a r3.n r3.c, .int .i64 1, .int .i64 0], .slice (some ⟨blk, 0, none⟩) 113 113] Wc fun e w' => (∃ q : Sl, e = .returned (.tuple #[.agg #[.slice q.a q.n q.c, .int .i64 0, .int .i64 0], .int .i64 2])) ∧ Below Wc.heap.size Wc w' := fun Wc blk h hy => sFull r3 ⟨some ⟨blk, 0, none⟩, 113, 113⟩ Wc (HR3.out.step h) hy
  have SS := Lib.hid sS
  have CWH := Lib.hid CW
  have yA0 := zero113_by W2 TT trivial
  have yB0 := yA0.step ((Below.refl _ _).alloc (Nat.le_refl _) (.cells #[.slice none 0 0, .int .i64 0, .int .i64 0] 29))
  have yC0 := zero113_by (W2.alloc (.cells #[.slice none 0 0, .int .i64 0, .int .i64 0] 29)) TT trivial
  simp only [World.size_alloc] at yC0
  have yA := Lib.hid yA0.drew
  have yB := Lib.hid yB0.drew
  have yC := Lib.hid yC0.drew
  have hA0 : Below W2.heap.size W2 (W2.alloc (.cells zero113 5)) := (Below.refl _ _).alloc (Nat.le_refl _) _
  have hA20 : Below W2.heap.size W2 (W2.alloc (.cells #[.slice none 0 0, .int .i64 0, .int .i64 0] 29)) := (Below.refl _ _).alloc (Nat.le_refl _) _
  have hA := hA0.drew
  have hA2 := hA20.drew
  have hBB : Below W2.heap.size W2 ((W2.alloc (.cells zero113 5)).alloc (.cells #[.slice none 0 0, .int .i64 0, .int .i64 0] 29)).drew := (hA0.alloc hA0.size _).drew
  have hCC : Below W2.heap.size W2 ((W2.alloc (.cells #[.slice none 0 0, .int .i64 0, .int .i64 0] 29)).alloc (.cells zero113 5)).drew := (hA20.alloc hA20.size _).drew
  have xB := Lib.hid (Box3.at_ (W2.alloc (.cells zero113 5)) (.slice none 0 0) (.int .i64 0) (.int .i64 0) 29 (W2.heap.size + 1) (by simp)).drew
  have xC := Lib.hid ((Box3.new W2 (.slice none 0 0) (.int .i64 0) (.int .i64 0) 29).step ((Below.refl _ _).alloc (Nat.le_refl _) (.cells zero113 5))).drew
  clear yA0 yB0 yC0
  clear sS CW
  have hk0 : W2.heap.size ≤ W2.heap.size := Nat.le_refl _
  have hk1 : W2.heap.size ≤ W2.heap.size + 1 := Nat.le_succ _
  go_cut [6] (fun e wx => e = .int .i64 2 ∧ Below W2.heap.size W2 wx)
  case first =>
    go_region_held3 (fun W => W.cell? ⟨w2.heap.size, 0, none⟩ = some (.slice r3.a r3.n r3.c) ∧ W.cell? ⟨w2.heap.size, 1, none⟩ = some (.int .i64 1) ∧ W.cell? ⟨w2.heap.size, 2, none⟩ = some (.int .i64 0) ∧ Below W2.heap.size W2 W) (first | with_reducible exact SS.out _ (Below.refl W2.heap.size W2).drew | with_reducible exact SS.out _ hA | with_reducible exact SS.out _ hA2 | with_reducible exact SS.out _ hBB | with_reducible exact SS.out _ hCC | with_reducible exact SS.out _ (hA.trans (hb3.mono hA.size)) | with_reducible exact SS.out _ (hBB.trans (hb3.mono hBB.size)) | with_reducible exact SS.out _ (hCC.trans (hb3.mono hCC.size)) | with_reducible exact SS.out _ ((hA.trans (hb3.mono hA.size)).alloc (Nat.le_trans hA.size hb3.size) _) | with_reducible exact SS.out _ (chain3_below (hBB.trans (hb3.mono hBB.size)) hk1 _ _ _) | with_reducible exact SS.out _ (chain3_below (hCC.trans (hb3.mono hCC.size)) hk0 _ _ _)) (first | (go_at_call 15; with_reducible refine Calls.mono (CWH.out _ _ hA yA.out) ?_; rintro e w3 ⟨⟨q3, rfl⟩, hb3⟩) | (go_at_call 15; with_reducible refine Calls.mono (CWH.out _ _ hBB yB.out) ?_; rintro e w3 ⟨⟨q3, rfl⟩, hb3⟩; obtain ⟨z0, z1, z2, zf0, zf1, zf2, zz⟩ := xB.out.step hb3) | (go_at_call 15; with_reducible refine Calls.mono (CWH.out _ _ hCC yC.out) ?_; rintro e w3 ⟨⟨q3, rfl⟩, hb3⟩; obtain ⟨z0, z1, z2, zf0, zf1, zf2, zz⟩ := xC.out.step hb3))
    all_goals
      go_simp
      go_wp2_with fail
      go_meet
      refine ⟨rfl, ?_⟩
      first | with_reducible exact (hA.trans (hb3.mono hA.size)) | with_reducible exact (hBB.trans (hb3.mono hBB.size)) | with_reducible exact (hCC.trans (hb3.mono hCC.size)) | with_reducible exact ((hA.trans (hb3.mono hA.size)).alloc (Nat.le_trans hA.size hb3.size) _) | with_reducible exact (chain3_below (hBB.trans (hb3.mono hBB.size)) hk1 _ _ _) | with_reducible exact (chain3_below (hCC.trans (hb3.mono hCC.size)) hk0 _ _ _)
  case rest =>
    obtain ⟨w3, hwc⟩ : ∃ x, x = wc := ⟨_, rfl⟩
    subst hwc
    obtain ⟨rfl, hb_w3⟩ := hcut
    have S_w3 : Below W2.heap.size W2 w3 := (Below.refl _ W2).trans (hb_w3.mono (by (try simp) <;> omega))
    have ba := Lib.hid (ba.out.trans (S_w3.mono ba.out.size))
    have HD1 := Lib.hid (HD1.out.step S_w3)
    have X1 := Lib.hid (X1.out.step S_w3)
    have HR3 := Lib.hid (HR3.out.step S_w3)
    have X3 := Lib.hid (X3.out.step S_w3)
    have z_w3 := S_w3.size
    clear hA0 hA20 hA hA2 hBB hCC xB xC yA yB yC SS CWH hk0 hk1 hmk9
    obtain ⟨X3_0, X3_1, X3_2, X3_f0, X3_f1, X3_f2, X3_z⟩ := X3.out
    have hcb : (convert 35 35 (.slice (some ⟨w3.heap.size, 0, none⟩) 2 2)).run Try.prog (w3.alloc (.cells #[.int .u8 97, .int .u8 98] 5)) = .ok (.slice (some ⟨w3.heap.size, 0, none⟩) 2 2) (w3.alloc (.cells #[.int .u8 97, .int .u8 98] 5 (2, 3))) := Lib.run_convert_bytes_const w3 35 5 #[.int .u8 97, .int .u8 98] 2 2 Try.underlying35 Try.underlying5
    go_wp2_with fail
    have hy := two_by w3 TT trivial
    have hr := HR3.out.step ((Below.refl _ w3).alloc (Nat.le_refl _) (.cells #[.int .u8 97, .int .u8 98] 5 (2, 3)))
    refine (sPut r3 ⟨some ⟨w3.heap.size, 0, none⟩, 2, 2⟩ _ hr hy).mono ?_
    rintro e w4 ⟨⟨q7, rfl, hq7⟩, hb_w4⟩
    clear hr hy
    have S_w4 : Below w3.heap.size w3 w4 := ((Below.refl _ w3).alloc (by (try simp) <;> omega) _).trans (hb_w4.mono (by (try simp) <;> omega))
    have ba := Lib.hid (ba.out.trans (S_w4.mono ba.out.size))
    have HD1 := Lib.hid (HD1.out.step S_w4)
    have X1 := Lib.hid (X1.out.step S_w4)
    have HR3 := Lib.hid (HR3.out.step S_w4)
    have X3 := Lib.hid (X3.out.step S_w4)
    have z_w4 := S_w4.size
    have HQ7 := Lib.hid (hq7)
    clear hq7
    clear X3_0 X3_1 X3_2 X3_f0 X3_f1 X3_f2 X3_z
    go_upto_region 5 with fail
    obtain ⟨W4, hW4⟩ : ∃ X, X = w4.alloc (.cells #[.slice q7.a q7.n q7.c, .int .i64 1, .int .i64 0] 29) := ⟨_, rfl⟩
    rw [← hW4]
    have hb_W4 : Below w4.heap.size w4 W4 := by rw [hW4]; exact (Below.refl _ _).alloc (Nat.le_refl _) _
    have N_X7 : Box3 W4 w4.heap.size (.slice q7.a q7.n q7.c) (.int .i64 1) (.int .i64 0) := by rw [hW4]; exact Box3.new ..
    clear hW4
    have S_W4 : Below w4.heap.size w4 W4 := (Below.refl _ w4).trans (hb_W4.mono (by (try simp) <;> omega))
    have ba := Lib.hid (ba.out.trans (S_W4.mono ba.out.size))
    have HD1 := Lib.hid (HD1.out.step S_W4)
    have X1 := Lib.hid (X1.out.step S_W4)
    have HR3 := Lib.hid (HR3.out.step S_W4)
    have X3 := Lib.hid (X3.out.step S_W4)
    have HQ7 := Lib.hid (HQ7.out.step S_W4)
    have z_W4 := S_W4.size
    have X7 := Lib.hid (N_X7)
    clear N_X7
    obtain ⟨X7_0, X7_1, X7_2, X7_f0, X7_f1, X7_f2, X7_z⟩ := X7.out
    obtain ⟨X1_0, X1_1, X1_2, X1_3, X1_f0, X1_f1, X1_f2, X1_f3, X1_z⟩ := X1.out
    go_wp2_with fail
    refine (sSync q7 s1 p1 _ HQ7.out HD1.out).mono ?_
    rintro e w5 ⟨⟨y9, s10, p10, rfl, hd10⟩, hb_w5⟩
    have S_w5 : Below W4.heap.size W4 w5 := (Below.refl _ W4).trans (hb_w5.mono (by (try simp) <;> omega))
    have ba := Lib.hid (ba.out.trans (S_w5.mono ba.out.size))
    have HD1 := Lib.hid (HD1.out.step S_w5)
    have X1 := Lib.hid (X1.out.step S_w5)
    have HR3 := Lib.hid (HR3.out.step S_w5)
    have X3 := Lib.hid (X3.out.step S_w5)
    have HQ7 := Lib.hid (HQ7.out.step S_w5)
    have X7 := Lib.hid (X7.out.step S_w5)
    have z_w5 := S_w5.size
    have HD10 := Lib.hid (hd10)
    clear hd10
    clear X7_0 X7_1 X7_2 X7_f0 X7_f1 X7_f2 X7_z
    clear X1_0 X1_1 X1_2 X1_3 X1_f0 X1_f1 X1_f2 X1_f3 X1_z
    go_upto_region 6 with fail
    obtain ⟨W5, hW5⟩ : ∃ X, X = (w5.alloc (.cells #[.slice y9.a y9.n y9.c, .int .i64 1, .int .i64 1] 29)).alloc (.cells #[.slice s10.a s10.n s10.c, .slice p10.a p10.n p10.c, .int .i64 saneC.left, .bool saneC.stopped] 25) := ⟨_, rfl⟩
    rw [← hW5]
    have hb_W5 : Below w5.heap.size w5 W5 := by rw [hW5]; exact ((Below.refl _ _).alloc (Nat.le_refl _) _).alloc (by simp) _
    have N9 : Box3 W5 w5.heap.size (.slice y9.a y9.n y9.c) (.int .i64 1) (.int .i64 1) := by rw [hW5]; exact (Box3.new ..).step ((Below.refl _ _).alloc (Nat.le_refl _) _)
    have N10 : Box4 W5 (w5.heap.size + 1) (.slice s10.a s10.n s10.c) (.slice p10.a p10.n p10.c) (.int .i64 saneC.left) (.bool saneC.stopped) := by rw [hW5]; exact Box4.at_ _ _ _ _ _ _ _ (by simp)
    clear hW5
    have S_W5 : Below w5.heap.size w5 W5 := (Below.refl _ w5).trans (hb_W5.mono (by (try simp) <;> omega))
    have ba := Lib.hid (ba.out.trans (S_W5.mono ba.out.size))
    have HD1 := Lib.hid (HD1.out.step S_W5)
    have X1 := Lib.hid (X1.out.step S_W5)
    have HR3 := Lib.hid (HR3.out.step S_W5)
    have X3 := Lib.hid (X3.out.step S_W5)
    have HQ7 := Lib.hid (HQ7.out.step S_W5)
    have X7 := Lib.hid (X7.out.step S_W5)
    have HD10 := Lib.hid (HD10.out.step S_W5)
    have z_W5 := S_W5.size
    have X9 := Lib.hid (N9)
    have X10 := Lib.hid (N10)
    clear N9 N10
    obtain ⟨X10_0, X10_1, X10_2, X10_3, X10_f0, X10_f1, X10_f2, X10_f3, X10_z⟩ := X10.out
    go_wp2_with fail
    refine (sOpen2 s10 p10 _ HD10.out).mono ?_
    rintro e w6 ⟨⟨r12, rfl, hr12⟩, hb_w6⟩
    have S_w6 : Below W5.heap.size W5 w6 := (Below.refl _ W5).trans (hb_w6.mono (by (try simp) <;> omega))
    have ba := Lib.hid (ba.out.trans (S_w6.mono ba.out.size))
    have HD1 := Lib.hid (HD1.out.step S_w6)
    have X1 := Lib.hid (X1.out.step S_w6)
    have HR3 := Lib.hid (HR3.out.step S_w6)
    have X3 := Lib.hid (X3.out.step S_w6)
    have HQ7 := Lib.hid (HQ7.out.step S_w6)
    have X7 := Lib.hid (X7.out.step S_w6)
    have HD10 := Lib.hid (HD10.out.step S_w6)
    have X9 := Lib.hid (X9.out.step S_w6)
    have X10 := Lib.hid (X10.out.step S_w6)
    have z_w6 := S_w6.size
    have HR12 := Lib.hid (hr12)
    clear hr12
    clear X10_0 X10_1 X10_2 X10_3 X10_f0 X10_f1 X10_f2 X10_f3 X10_z
    go_upto_region 7 with fail
    obtain ⟨W6, hW6⟩ : ∃ X, X = w6.alloc (.cells #[.slice r12.a r12.n r12.c, .int .i64 1, .int .i64 1] 29) := ⟨_, rfl⟩
    rw [← hW6]
    have hb_W6 : Below w6.heap.size w6 W6 := by rw [hW6]; exact (Below.refl _ _).alloc (Nat.le_refl _) _
    have N_X12 : Box3 W6 w6.heap.size (.slice r12.a r12.n r12.c) (.int .i64 1) (.int .i64 1) := by rw [hW6]; exact Box3.new ..
    clear hW6
    have S_W6 : Below w6.heap.size w6 W6 := (Below.refl _ w6).trans (hb_W6.mono (by (try simp) <;> omega))
    have ba := Lib.hid (ba.out.trans (S_W6.mono ba.out.size))
    have HD1 := Lib.hid (HD1.out.step S_W6)
    have X1 := Lib.hid (X1.out.step S_W6)
    have HR3 := Lib.hid (HR3.out.step S_W6)
    have X3 := Lib.hid (X3.out.step S_W6)
    have HQ7 := Lib.hid (HQ7.out.step S_W6)
    have X7 := Lib.hid (X7.out.step S_W6)
    have HD10 := Lib.hid (HD10.out.step S_W6)
    have X9 := Lib.hid (X9.out.step S_W6)
    have X10 := Lib.hid (X10.out.step S_W6)
    have HR12 := Lib.hid (HR12.out.step S_W6)
    have z_W6 := S_W6.size
    have X12 := Lib.hid (N_X12)
    clear N_X12
    obtain ⟨X7_0, X7_1, X7_2, X7_f0, X7_f1, X7_f2, X7_z⟩ := X7.out
    obtain ⟨X10_0, X10_1, X10_2, X10_3, X10_f0, X10_f1, X10_f2, X10_f3, X10_z⟩ := X10.out
    go_wp2_with fail
    refine (sTwice q7 s10 p10 _ HQ7.out HD10.out).mono ?_
    rintro e w7 ⟨⟨y14, s15, p15, rfl⟩, hb_w7⟩
    have S_w7 : Below W6.heap.size W6 w7 := (Below.refl _ W6).trans (hb_w7.mono (by (try simp) <;> omega))
    have ba := Lib.hid (ba.out.trans (S_w7.mono ba.out.size))
    have HD1 := Lib.hid (HD1.out.step S_w7)
    have X1 := Lib.hid (X1.out.step S_w7)
    have HR3 := Lib.hid (HR3.out.step S_w7)
    have X3 := Lib.hid (X3.out.step S_w7)
    have HQ7 := Lib.hid (HQ7.out.step S_w7)
    have X7 := Lib.hid (X7.out.step S_w7)
    have HD10 := Lib.hid (HD10.out.step S_w7)
    have X9 := Lib.hid (X9.out.step S_w7)
    have X10 := Lib.hid (X10.out.step S_w7)
    have HR12 := Lib.hid (HR12.out.step S_w7)
    have X12 := Lib.hid (X12.out.step S_w7)
    have z_w7 := S_w7.size
    clear X7_0 X7_1 X7_2 X7_f0 X7_f1 X7_f2 X7_z
    clear X10_0 X10_1 X10_2 X10_3 X10_f0 X10_f1 X10_f2 X10_f3 X10_z
    go_upto_region 8 with fail
    obtain ⟨W7, hW7⟩ : ∃ X, X = (w7.alloc (.cells #[.slice y14.a y14.n y14.c, .int .i64 0, .int .i64 0] 29)).alloc (.cells #[.slice s15.a s15.n s15.c, .slice p15.a p15.n p15.c, .int .i64 0, .bool false] 25) := ⟨_, rfl⟩
    rw [← hW7]
    have hb_W7 : Below w7.heap.size w7 W7 := by rw [hW7]; exact ((Below.refl _ _).alloc (Nat.le_refl _) _).alloc (by simp) _
    clear hW7
    have S_W7 : Below w7.heap.size w7 W7 := (Below.refl _ w7).trans (hb_W7.mono (by (try simp) <;> omega))
    have ba := Lib.hid (ba.out.trans (S_W7.mono ba.out.size))
    have HD1 := Lib.hid (HD1.out.step S_W7)
    have X1 := Lib.hid (X1.out.step S_W7)
    have HR3 := Lib.hid (HR3.out.step S_W7)
    have X3 := Lib.hid (X3.out.step S_W7)
    have HQ7 := Lib.hid (HQ7.out.step S_W7)
    have X7 := Lib.hid (X7.out.step S_W7)
    have HD10 := Lib.hid (HD10.out.step S_W7)
    have X9 := Lib.hid (X9.out.step S_W7)
    have X10 := Lib.hid (X10.out.step S_W7)
    have HR12 := Lib.hid (HR12.out.step S_W7)
    have X12 := Lib.hid (X12.out.step S_W7)
    have z_W7 := S_W7.size
    have hn3 := HR3.out.len
    simp only [List.length_nil] at hn3
    obtain ⟨b12, o12, v12, bs12, ha12, hb12, he12, hv12, hc12⟩ := HR12.out.at_ (i := 0) (by decide)
    obtain rfl : [97, 98] = bs12 := by simpa using he12
    have hn12 := HR12.out.len
    simp only [List.length_cons, List.length_nil] at hn12
    simp only [Nat.add_zero] at hc12
    obtain ⟨A12, n12, c12⟩ := r12
    simp only at ha12 hn12 hc12
    subst ha12 hn12
    obtain ⟨A3, n3, c3⟩ := r3
    simp only at hn3
    subst hn3
    obtain ⟨X3_0, X3_1, X3_2, X3_f0, X3_f1, X3_f2, X3_z⟩ := X3.out
    go_wp2_with fail
    refine (sRoom ⟨A3, 0, c3⟩ _ HR3.out).mono ?_
    rintro e w8 ⟨rfl, hb_w8⟩
    have S_w8 : Below W7.heap.size W7 w8 := (Below.refl _ W7).trans (hb_w8.mono (by (try simp) <;> omega))
    have ba := Lib.hid (ba.out.trans (S_w8.mono ba.out.size))
    have HD1 := Lib.hid (HD1.out.step S_w8)
    have X1 := Lib.hid (X1.out.step S_w8)
    have HR3 := Lib.hid (HR3.out.step S_w8)
    have X3 := Lib.hid (X3.out.step S_w8)
    have HQ7 := Lib.hid (HQ7.out.step S_w8)
    have X7 := Lib.hid (X7.out.step S_w8)
    have HD10 := Lib.hid (HD10.out.step S_w8)
    have X9 := Lib.hid (X9.out.step S_w8)
    have X10 := Lib.hid (X10.out.step S_w8)
    have HR12 := Lib.hid (HR12.out.step S_w8)
    have X12 := Lib.hid (X12.out.step S_w8)
    have z_w8 := S_w8.size
    have hcc12 := (S_w8.cell (p := ⟨b12, o12, none⟩) hb12).trans hc12
    have hvv12 := hv12.step S_w8
    have hcv : ∀ W, Below w8.heap.size w8 W → (convert 35 9 (.slice v12.a v12.n v12.c)).run Try.prog W = .ok (.string { data := #[97, 98] }) W := fun W h => by have := conv_by (hvv12.step h); rw [strAB] at this; exact this
    have hcv0 := hcv w8 (Below.refl _ _)
    clear X3_0 X3_1 X3_2 X3_f0 X3_f1 X3_f2 X3_z
    obtain ⟨X9_0, X9_1, X9_2, X9_f0, X9_f1, X9_f2, X9_z⟩ := X9.out
    obtain ⟨X12_0, X12_1, X12_2, X12_f0, X12_f1, X12_f2, X12_z⟩ := X12.out
    go_wp2_with fail
    refine (sChk _).mono ?_
    rintro e w9 ⟨rfl, hb_w9⟩
    have S_w9 : Below w8.heap.size w8 w9 := (Below.refl _ w8).trans (hb_w9.mono (by (try simp) <;> omega))
    have ba := Lib.hid (ba.out.trans (S_w9.mono ba.out.size))
    have HD1 := Lib.hid (HD1.out.step S_w9)
    have X1 := Lib.hid (X1.out.step S_w9)
    have HR3 := Lib.hid (HR3.out.step S_w9)
    have X3 := Lib.hid (X3.out.step S_w9)
    have HQ7 := Lib.hid (HQ7.out.step S_w9)
    have X7 := Lib.hid (X7.out.step S_w9)
    have HD10 := Lib.hid (HD10.out.step S_w9)
    have X9 := Lib.hid (X9.out.step S_w9)
    have X10 := Lib.hid (X10.out.step S_w9)
    have HR12 := Lib.hid (HR12.out.step S_w9)
    have X12 := Lib.hid (X12.out.step S_w9)
    have z_w9 := S_w9.size
    clear X9_0 X9_1 X9_2 X9_f0 X9_f1 X9_f2 X9_z
    clear X12_0 X12_1 X12_2 X12_f0 X12_f1 X12_f2 X12_z
    go_wp2_with fail
    go_ret
    exact ⟨rfl, ba.out⟩
end Go.Proofs.Ytgbkhmoplocmkaa
