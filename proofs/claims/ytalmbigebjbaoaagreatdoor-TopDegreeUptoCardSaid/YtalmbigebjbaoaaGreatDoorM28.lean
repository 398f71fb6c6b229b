/- TopDegree, what its proof leans on: the texts TopH. -/
import Derived.Test.YtalmbigebjbaoaaGreatDoorM27
namespace Go.Proofs.YtalmbigebjbaoaaGreatDoor
open Go.RowKit Go.Shelf
set_option linter.unusedSimpArgs false
set_option linter.unusedVariables false
attribute [local go_sem] Oper.semAt_some
def kindC : Nat → List Value
 | 1 => [.bool false, .bool false, .bool false, .bool true, .func (.func 196) #[] #[], .func (.func 197) #[] #[]]
 | 2 => [.bool false, .bool false, .bool false, .bool true, .func (.func 198) #[] #[], .func (.func 199) #[] #[]]
 | 3 => [.bool false, .bool true, .bool false, .bool true, .func (.func 200) #[] #[], .func (.func 201) #[] #[]]
 | 4 => [.bool false, .bool false, .bool false, .bool true, .func (.func 202) #[] #[], .func (.func 203) #[] #[]]
 | 5 => [.bool true, .bool true, .bool false, .bool false, .func (.func 204) #[] #[], .func (.func 206) #[] #[]]
 | 6 => [.bool true, .bool true, .bool false, .bool false, .func (.func 208) #[] #[], .func (.func 209) #[] #[]]
 | 7 => [.bool false, .bool true, .bool false, .bool false, .func (.func 210) #[] #[], .func (.func 211) #[] #[]]
 | 8 => [.bool false, .bool true, .bool true, .bool false, .func (.func 212) #[] #[], .func (.func 214) #[] #[]]
 | 9 => [.bool true, .bool false, .bool false, .bool false, .func (.func 205) #[] #[], .func (.func 215) #[] #[]]
 | _ => []
def KindsAt (w : World) : Prop := ∀ (i j : Nat) (v : Value), (kindC i)[j]? = some v → w.cell? ⟨0, i * 6 + j, none⟩ = some v
theorem KindsAt.step {w w' : World} (h : KindsAt w) (hb : Below w.heap.size w w') : KindsAt w' := fun i j v e =>
 (hb.cell (p := ⟨0, i * 6 + j, none⟩) (cell_in (h i j v e))).trans (h i j v e)
def emptyF (r : RT) : Bool :=
 match r.op with
 | 1 => r.course == 0 && (r.n == 0 && (r.d == 0))
 | 2 => r.course == 0 && (r.n == 0 && (r.d == 0))
 | 3 => r.course == 0 && (r.d == 0)
 | 4 => r.course == 0 && (r.n == 0 && (r.d == 0))
 | 5 => r.d == 0 && (r.kids.length == 0)
 | 6 => r.d == 0 && (r.kids.length == 0)
 | 7 => r.course == 0 && (r.d == 0 && (r.kids.length == 0))
 | 8 => r.course == 0 && (r.kids.length == 0)
 | 9 => r.n == 0 && (r.d == 0 && (r.kids.length == 0))
 | _ => false
def formedF (r : RT) : Bool := inB r.op 1 9 && (emptyF r && rightF r)
set_option maxRecDepth 100000 in
set_option maxHeartbeats 1000000 in
theorem ruFormed1 (co : Int) (nm : ByteArray) (n d : Int) (ks : List RT) (sa : Option Addr) (sc : Nat) (w : World) (hk : KindsAt w) (hi : (⟨n, d⟩ : Ra).i64) (hn : ks.length ≤ maxLen) :
 Calls Tryz.prog 175 #[RT.v ⟨1, co, nm, n, d, ks, ⟨sa, ks.length, sc⟩⟩] w fun e w' => e = .returned (.bool (formedF ⟨1, co, nm, n, d, ks, ⟨sa, ks.length, sc⟩⟩)) ∧ Below w.heap.size w w' := by
 have T1 : Hid (inB 1 1 9 = true) := Lib.hid rfl
 have HI := Lib.hid hi
 have hk0 := hk 1 0 _ rfl
 have hk1 := hk 1 1 _ rfl
 have hk2 := hk 1 2 _ rfl
 have hk3 := hk 1 3 _ rfl
 have hk4 := hk 1 4 _ rfl
 have hk5 := hk 1 5 _ rfl
 have hlt : 0 < w.heap.size := cell_in hk0
 simp only [Nat.reduceMul, Nat.reduceAdd] at hk0 hk1 hk2 hk3 hk4 hk5
 clear hi hk
 unfold maxLen at hn
 by_cases t0 : co = 0
 case neg =>
  obtain ⟨E, hE⟩ : ∃ E, E = formedF ⟨1, co, nm, n, d, ks, ⟨sa, ks.length, sc⟩⟩ := ⟨_, rfl⟩
  rw [← hE]
  obtain rfl : E = false := by rw [hE]; simp [formedF, emptyF, RT.op, RT.course, RT.n, RT.d, RT.kids, t0]
  clear hE
  simp only [RT.v]
  go_enter Tryz.func175, Tryz.ntmps175
  go_wp2_with fail
  refine (ruWithin_any _ _ _ _).mono ?_
  rw [T1.out]
  rintro e w1 ⟨rfl, rfl⟩
  go_wp2_with fail
  go_ret
  exact ⟨rfl, by go_grown⟩
 subst t0
 by_cases t1 : n = 0
 case neg =>
  obtain ⟨E, hE⟩ : ∃ E, E = formedF ⟨1, 0, nm, n, d, ks, ⟨sa, ks.length, sc⟩⟩ := ⟨_, rfl⟩
  rw [← hE]
  obtain rfl : E = false := by rw [hE]; simp [formedF, emptyF, RT.op, RT.course, RT.n, RT.d, RT.kids, t1]
  clear hE
  simp only [RT.v]
  go_enter Tryz.func175, Tryz.ntmps175
  go_wp2_with fail
  refine (ruWithin_any _ _ _ _).mono ?_
  rw [T1.out]
  rintro e w1 ⟨rfl, rfl⟩
  go_wp2_with fail
  go_ret
  exact ⟨rfl, by go_grown⟩
 subst t1
 by_cases t2 : d = 0
 case neg =>
  obtain ⟨E, hE⟩ : ∃ E, E = formedF ⟨1, 0, nm, 0, d, ks, ⟨sa, ks.length, sc⟩⟩ := ⟨_, rfl⟩
  rw [← hE]
  obtain rfl : E = false := by rw [hE]; simp [formedF, emptyF, RT.op, RT.course, RT.n, RT.d, RT.kids, t2]
  clear hE
  simp only [RT.v]
  go_enter Tryz.func175, Tryz.ntmps175
  go_wp2_with fail
  refine (ruWithin_any _ _ _ _).mono ?_
  rw [T1.out]
  rintro e w1 ⟨rfl, rfl⟩
  go_wp2_with fail
  go_ret
  exact ⟨rfl, by go_grown⟩
 subst t2
 obtain ⟨E, hE⟩ : ∃ E, E = formedF ⟨1, 0, nm, 0, 0, ks, ⟨sa, ks.length, sc⟩⟩ := ⟨_, rfl⟩
 rw [← hE]
 have hE2 : E = rightF ⟨1, 0, nm, 0, 0, ks, ⟨sa, ks.length, sc⟩⟩ := by rw [hE]; unfold formedF; rw [show emptyF ⟨1, 0, nm, 0, 0, ks, ⟨sa, ks.length, sc⟩⟩ = true by simp [emptyF, RT.op, RT.course, RT.n, RT.d, RT.kids], show (RT.op ⟨1, 0, nm, 0, 0, ks, ⟨sa, ks.length, sc⟩⟩) = 1 by rfl, T1.out]; rfl
 have HC := Lib.hid (fun W => (ruK1_any ⟨1, 0, nm, 0, 0, ks, ⟨sa, ks.length, sc⟩⟩ W))
 try simp only [RT.n, RT.d, RT.course, RT.kids] at HC
 have HE : Hid (E = rightF ⟨1, 0, nm, 0, 0, ks, ⟨sa, ks.length, sc⟩⟩) := Lib.hid hE2
 clear hE hE2
 simp only [RT.v] at HC ⊢
 go_enter Tryz.func175, Tryz.ntmps175
 go_wp2_with fail
 refine (ruWithin_any _ _ _ _).mono ?_
 rw [T1.out]
 rintro e w1 ⟨rfl, rfl⟩
 go_wp2_with fail
 refine (HC.out _).mono ?_
 rintro e w2 ⟨rfl, hb2⟩
 have HB : Hid (Below w.heap.size w w2) := Lib.hid (Below.trans (by go_grown) (hb2.mono (by simp only [World.size_alloc]; omega)))
 clear hb2
 go_wp2_with fail
 go_ret
 exact ⟨by rw [HE.out]; rfl, HB.out⟩
set_option maxRecDepth 100000 in
set_option maxHeartbeats 1000000 in
theorem ruFormed2 (co : Int) (nm : ByteArray) (n d : Int) (ks : List RT) (sa : Option Addr) (sc : Nat) (w : World) (hk : KindsAt w) (hi : (⟨n, d⟩ : Ra).i64) (hn : ks.length ≤ maxLen) :
 Calls Tryz.prog 175 #[RT.v ⟨2, co, nm, n, d, ks, ⟨sa, ks.length, sc⟩⟩] w fun e w' => e = .returned (.bool (formedF ⟨2, co, nm, n, d, ks, ⟨sa, ks.length, sc⟩⟩)) ∧ Below w.heap.size w w' := by
 have T1 : Hid (inB 2 1 9 = true) := Lib.hid rfl
 have HI := Lib.hid hi
 have hk0 := hk 2 0 _ rfl
 have hk1 := hk 2 1 _ rfl
 have hk2 := hk 2 2 _ rfl
 have hk3 := hk 2 3 _ rfl
 have hk4 := hk 2 4 _ rfl
 have hk5 := hk 2 5 _ rfl
 have hlt : 0 < w.heap.size := cell_in hk0
 simp only [Nat.reduceMul, Nat.reduceAdd] at hk0 hk1 hk2 hk3 hk4 hk5
 clear hi hk
 unfold maxLen at hn
 by_cases t0 : co = 0
 case neg =>
  obtain ⟨E, hE⟩ : ∃ E, E = formedF ⟨2, co, nm, n, d, ks, ⟨sa, ks.length, sc⟩⟩ := ⟨_, rfl⟩
  rw [← hE]
  obtain rfl : E = false := by rw [hE]; simp [formedF, emptyF, RT.op, RT.course, RT.n, RT.d, RT.kids, t0]
  clear hE
  simp only [RT.v]
  go_enter Tryz.func175, Tryz.ntmps175
  go_wp2_with fail
  refine (ruWithin_any _ _ _ _).mono ?_
  rw [T1.out]
  rintro e w1 ⟨rfl, rfl⟩
  go_wp2_with fail
  go_ret
  exact ⟨rfl, by go_grown⟩
 subst t0
 by_cases t1 : n = 0
 case neg =>
  obtain ⟨E, hE⟩ : ∃ E, E = formedF ⟨2, 0, nm, n, d, ks, ⟨sa, ks.length, sc⟩⟩ := ⟨_, rfl⟩
  rw [← hE]
  obtain rfl : E = false := by rw [hE]; simp [formedF, emptyF, RT.op, RT.course, RT.n, RT.d, RT.kids, t1]
  clear hE
  simp only [RT.v]
  go_enter Tryz.func175, Tryz.ntmps175
  go_wp2_with fail
  refine (ruWithin_any _ _ _ _).mono ?_
  rw [T1.out]
  rintro e w1 ⟨rfl, rfl⟩
  go_wp2_with fail
  go_ret
  exact ⟨rfl, by go_grown⟩
 subst t1
 by_cases t2 : d = 0
 case neg =>
  obtain ⟨E, hE⟩ : ∃ E, E = formedF ⟨2, 0, nm, 0, d, ks, ⟨sa, ks.length, sc⟩⟩ := ⟨_, rfl⟩
  rw [← hE]
  obtain rfl : E = false := by rw [hE]; simp [formedF, emptyF, RT.op, RT.course, RT.n, RT.d, RT.kids, t2]
  clear hE
  simp only [RT.v]
  go_enter Tryz.func175, Tryz.ntmps175
  go_wp2_with fail
  refine (ruWithin_any _ _ _ _).mono ?_
  rw [T1.out]
  rintro e w1 ⟨rfl, rfl⟩
  go_wp2_with fail
  go_ret
  exact ⟨rfl, by go_grown⟩
 subst t2
 obtain ⟨E, hE⟩ : ∃ E, E = formedF ⟨2, 0, nm, 0, 0, ks, ⟨sa, ks.length, sc⟩⟩ := ⟨_, rfl⟩
 rw [← hE]
 have hE2 : E = rightF ⟨2, 0, nm, 0, 0, ks, ⟨sa, ks.length, sc⟩⟩ := by rw [hE]; unfold formedF; rw [show emptyF ⟨2, 0, nm, 0, 0, ks, ⟨sa, ks.length, sc⟩⟩ = true by simp [emptyF, RT.op, RT.course, RT.n, RT.d, RT.kids], show (RT.op ⟨2, 0, nm, 0, 0, ks, ⟨sa, ks.length, sc⟩⟩) = 2 by rfl, T1.out]; rfl
 have HC := Lib.hid (fun W => (ruK2_any ⟨2, 0, nm, 0, 0, ks, ⟨sa, ks.length, sc⟩⟩ W))
 try simp only [RT.n, RT.d, RT.course, RT.kids] at HC
 have HE : Hid (E = rightF ⟨2, 0, nm, 0, 0, ks, ⟨sa, ks.length, sc⟩⟩) := Lib.hid hE2
 clear hE hE2
 simp only [RT.v] at HC ⊢
 go_enter Tryz.func175, Tryz.ntmps175
 go_wp2_with fail
 refine (ruWithin_any _ _ _ _).mono ?_
 rw [T1.out]
 rintro e w1 ⟨rfl, rfl⟩
 go_wp2_with fail
 refine (HC.out _).mono ?_
 rintro e w2 ⟨rfl, hb2⟩
 have HB : Hid (Below w.heap.size w w2) := Lib.hid (Below.trans (by go_grown) (hb2.mono (by simp only [World.size_alloc]; omega)))
 clear hb2
 go_wp2_with fail
 go_ret
 exact ⟨by rw [HE.out]; rfl, HB.out⟩
set_option maxRecDepth 100000 in
set_option maxHeartbeats 1000000 in
theorem ruFormed3 (co : Int) (nm : ByteArray) (n d : Int) (ks : List RT) (sa : Option Addr) (sc : Nat) (w : World) (hk : KindsAt w) (hi : (⟨n, d⟩ : Ra).i64) (hn : ks.length ≤ maxLen) :
 Calls Tryz.prog 175 #[RT.v ⟨3, co, nm, n, d, ks, ⟨sa, ks.length, sc⟩⟩] w fun e w' => e = .returned (.bool (formedF ⟨3, co, nm, n, d, ks, ⟨sa, ks.length, sc⟩⟩)) ∧ Below w.heap.size w w' := by
 have T1 : Hid (inB 3 1 9 = true) := Lib.hid rfl
 have HI := Lib.hid hi
 have hk0 := hk 3 0 _ rfl
 have hk1 := hk 3 1 _ rfl
 have hk2 := hk 3 2 _ rfl
 have hk3 := hk 3 3 _ rfl
 have hk4 := hk 3 4 _ rfl
 have hk5 := hk 3 5 _ rfl
 have hlt : 0 < w.heap.size := cell_in hk0
 simp only [Nat.reduceMul, Nat.reduceAdd] at hk0 hk1 hk2 hk3 hk4 hk5
 clear hi hk
 unfold maxLen at hn
 by_cases t0 : co = 0
 case neg =>
  obtain ⟨E, hE⟩ : ∃ E, E = formedF ⟨3, co, nm, n, d, ks, ⟨sa, ks.length, sc⟩⟩ := ⟨_, rfl⟩
  rw [← hE]
  obtain rfl : E = false := by rw [hE]; simp [formedF, emptyF, RT.op, RT.course, RT.n, RT.d, RT.kids, t0]
  clear hE
  simp only [RT.v]
  go_enter Tryz.func175, Tryz.ntmps175
  go_wp2_with fail
  refine (ruWithin_any _ _ _ _).mono ?_
  rw [T1.out]
  rintro e w1 ⟨rfl, rfl⟩
  go_wp2_with fail
  go_ret
  exact ⟨rfl, by go_grown⟩
 subst t0
 by_cases t2 : d = 0
 case neg =>
  obtain ⟨E, hE⟩ : ∃ E, E = formedF ⟨3, 0, nm, n, d, ks, ⟨sa, ks.length, sc⟩⟩ := ⟨_, rfl⟩
  rw [← hE]
  obtain rfl : E = false := by rw [hE]; simp [formedF, emptyF, RT.op, RT.course, RT.n, RT.d, RT.kids, t2]
  clear hE
  simp only [RT.v]
  go_enter Tryz.func175, Tryz.ntmps175
  go_wp2_with fail
  refine (ruWithin_any _ _ _ _).mono ?_
  rw [T1.out]
  rintro e w1 ⟨rfl, rfl⟩
  go_wp2_with fail
  go_ret
  exact ⟨rfl, by go_grown⟩
 subst t2
 obtain ⟨E, hE⟩ : ∃ E, E = formedF ⟨3, 0, nm, n, 0, ks, ⟨sa, ks.length, sc⟩⟩ := ⟨_, rfl⟩
 rw [← hE]
 have hE2 : E = rightF ⟨3, 0, nm, n, 0, ks, ⟨sa, ks.length, sc⟩⟩ := by rw [hE]; unfold formedF; rw [show emptyF ⟨3, 0, nm, n, 0, ks, ⟨sa, ks.length, sc⟩⟩ = true by simp [emptyF, RT.op, RT.course, RT.n, RT.d, RT.kids], show (RT.op ⟨3, 0, nm, n, 0, ks, ⟨sa, ks.length, sc⟩⟩) = 3 by rfl, T1.out]; rfl
 have HC := Lib.hid (fun W => (ruK3_any ⟨3, 0, nm, n, 0, ks, ⟨sa, ks.length, sc⟩⟩ W))
 try simp only [RT.n, RT.d, RT.course, RT.kids] at HC
 have HE : Hid (E = rightF ⟨3, 0, nm, n, 0, ks, ⟨sa, ks.length, sc⟩⟩) := Lib.hid hE2
 clear hE hE2
 simp only [RT.v] at HC ⊢
 go_enter Tryz.func175, Tryz.ntmps175
 go_wp2_with fail
 refine (ruWithin_any _ _ _ _).mono ?_
 rw [T1.out]
 rintro e w1 ⟨rfl, rfl⟩
 go_wp2_with fail
 refine (HC.out _).mono ?_
 rintro e w2 ⟨rfl, hb2⟩
 have HB : Hid (Below w.heap.size w w2) := Lib.hid (Below.trans (by go_grown) (hb2.mono (by simp only [World.size_alloc]; omega)))
 clear hb2
 go_wp2_with fail
 go_ret
 exact ⟨by rw [HE.out]; rfl, HB.out⟩
set_option maxRecDepth 100000 in
set_option maxHeartbeats 1000000 in
theorem ruFormed4 (co : Int) (nm : ByteArray) (n d : Int) (ks : List RT) (sa : Option Addr) (sc : Nat) (w : World) (hk : KindsAt w) (hi : (⟨n, d⟩ : Ra).i64) (hn : ks.length ≤ maxLen) :
 Calls Tryz.prog 175 #[RT.v ⟨4, co, nm, n, d, ks, ⟨sa, ks.length, sc⟩⟩] w fun e w' => e = .returned (.bool (formedF ⟨4, co, nm, n, d, ks, ⟨sa, ks.length, sc⟩⟩)) ∧ Below w.heap.size w w' := by
 have T1 : Hid (inB 4 1 9 = true) := Lib.hid rfl
 have HI := Lib.hid hi
 have hk0 := hk 4 0 _ rfl
 have hk1 := hk 4 1 _ rfl
 have hk2 := hk 4 2 _ rfl
 have hk3 := hk 4 3 _ rfl
 have hk4 := hk 4 4 _ rfl
 have hk5 := hk 4 5 _ rfl
 have hlt : 0 < w.heap.size := cell_in hk0
 simp only [Nat.reduceMul, Nat.reduceAdd] at hk0 hk1 hk2 hk3 hk4 hk5
 clear hi hk
 unfold maxLen at hn
 by_cases t0 : co = 0
 case neg =>
  obtain ⟨E, hE⟩ : ∃ E, E = formedF ⟨4, co, nm, n, d, ks, ⟨sa, ks.length, sc⟩⟩ := ⟨_, rfl⟩
  rw [← hE]
  obtain rfl : E = false := by rw [hE]; simp [formedF, emptyF, RT.op, RT.course, RT.n, RT.d, RT.kids, t0]
  clear hE
  simp only [RT.v]
  go_enter Tryz.func175, Tryz.ntmps175
  go_wp2_with fail
  refine (ruWithin_any _ _ _ _).mono ?_
  rw [T1.out]
  rintro e w1 ⟨rfl, rfl⟩
  go_wp2_with fail
  go_ret
  exact ⟨rfl, by go_grown⟩
 subst t0
 by_cases t1 : n = 0
 case neg =>
  obtain ⟨E, hE⟩ : ∃ E, E = formedF ⟨4, 0, nm, n, d, ks, ⟨sa, ks.length, sc⟩⟩ := ⟨_, rfl⟩
  rw [← hE]
  obtain rfl : E = false := by rw [hE]; simp [formedF, emptyF, RT.op, RT.course, RT.n, RT.d, RT.kids, t1]
  clear hE
  simp only [RT.v]
  go_enter Tryz.func175, Tryz.ntmps175
  go_wp2_with fail
  refine (ruWithin_any _ _ _ _).mono ?_
  rw [T1.out]
  rintro e w1 ⟨rfl, rfl⟩
  go_wp2_with fail
  go_ret
  exact ⟨rfl, by go_grown⟩
 subst t1
 by_cases t2 : d = 0
 case neg =>
  obtain ⟨E, hE⟩ : ∃ E, E = formedF ⟨4, 0, nm, 0, d, ks, ⟨sa, ks.length, sc⟩⟩ := ⟨_, rfl⟩
  rw [← hE]
  obtain rfl : E = false := by rw [hE]; simp [formedF, emptyF, RT.op, RT.course, RT.n, RT.d, RT.kids, t2]
  clear hE
  simp only [RT.v]
  go_enter Tryz.func175, Tryz.ntmps175
  go_wp2_with fail
  refine (ruWithin_any _ _ _ _).mono ?_
  rw [T1.out]
  rintro e w1 ⟨rfl, rfl⟩
  go_wp2_with fail
  go_ret
  exact ⟨rfl, by go_grown⟩
 subst t2
 obtain ⟨E, hE⟩ : ∃ E, E = formedF ⟨4, 0, nm, 0, 0, ks, ⟨sa, ks.length, sc⟩⟩ := ⟨_, rfl⟩
 rw [← hE]
 have hE2 : E = rightF ⟨4, 0, nm, 0, 0, ks, ⟨sa, ks.length, sc⟩⟩ := by rw [hE]; unfold formedF; rw [show emptyF ⟨4, 0, nm, 0, 0, ks, ⟨sa, ks.length, sc⟩⟩ = true by simp [emptyF, RT.op, RT.course, RT.n, RT.d, RT.kids], show (RT.op ⟨4, 0, nm, 0, 0, ks, ⟨sa, ks.length, sc⟩⟩) = 4 by rfl, T1.out]; rfl
 have HC := Lib.hid (fun W => (ruK4_any ⟨4, 0, nm, 0, 0, ks, ⟨sa, ks.length, sc⟩⟩ W rfl))
 try simp only [RT.n, RT.d, RT.course, RT.kids] at HC
 have HE : Hid (E = rightF ⟨4, 0, nm, 0, 0, ks, ⟨sa, ks.length, sc⟩⟩) := Lib.hid hE2
 clear hE hE2
 simp only [RT.v] at HC ⊢
 go_enter Tryz.func175, Tryz.ntmps175
 go_wp2_with fail
 refine (ruWithin_any _ _ _ _).mono ?_
 rw [T1.out]
 rintro e w1 ⟨rfl, rfl⟩
 go_wp2_with fail
 refine (HC.out _).mono ?_
 rintro e w2 ⟨rfl, hb2⟩
 have HB : Hid (Below w.heap.size w w2) := Lib.hid (Below.trans (by go_grown) (hb2.mono (by simp only [World.size_alloc]; omega)))
 clear hb2
 go_wp2_with fail
 go_ret
 exact ⟨by rw [HE.out]; rfl, HB.out⟩
set_option maxRecDepth 100000 in
set_option maxHeartbeats 1000000 in
theorem ruFormed5 (co : Int) (nm : ByteArray) (n d : Int) (ks : List RT) (sa : Option Addr) (sc : Nat) (w : World) (hk : KindsAt w) (hi : (⟨n, d⟩ : Ra).i64) (hn : ks.length ≤ maxLen) :
 Calls Tryz.prog 175 #[RT.v ⟨5, co, nm, n, d, ks, ⟨sa, ks.length, sc⟩⟩] w fun e w' => e = .returned (.bool (formedF ⟨5, co, nm, n, d, ks, ⟨sa, ks.length, sc⟩⟩)) ∧ Below w.heap.size w w' := by
 have T1 : Hid (inB 5 1 9 = true) := Lib.hid rfl
 have HI := Lib.hid hi
 have hk0 := hk 5 0 _ rfl
 have hk1 := hk 5 1 _ rfl
 have hk2 := hk 5 2 _ rfl
 have hk3 := hk 5 3 _ rfl
 have hk4 := hk 5 4 _ rfl
 have hk5 := hk 5 5 _ rfl
 have hlt : 0 < w.heap.size := cell_in hk0
 simp only [Nat.reduceMul, Nat.reduceAdd] at hk0 hk1 hk2 hk3 hk4 hk5
 clear hi hk
 unfold maxLen at hn
 by_cases t2 : d = 0
 case neg =>
  obtain ⟨E, hE⟩ : ∃ E, E = formedF ⟨5, co, nm, n, d, ks, ⟨sa, ks.length, sc⟩⟩ := ⟨_, rfl⟩
  rw [← hE]
  obtain rfl : E = false := by rw [hE]; simp [formedF, emptyF, RT.op, RT.course, RT.n, RT.d, RT.kids, t2]
  clear hE
  simp only [RT.v]
  go_enter Tryz.func175, Tryz.ntmps175
  go_wp2_with fail
  refine (ruWithin_any _ _ _ _).mono ?_
  rw [T1.out]
  rintro e w1 ⟨rfl, rfl⟩
  go_wp2_with fail
  go_ret
  exact ⟨rfl, by go_grown⟩
 subst t2
 by_cases t3 : ks.length = 0
 case neg =>
  obtain ⟨E, hE⟩ : ∃ E, E = formedF ⟨5, co, nm, n, 0, ks, ⟨sa, ks.length, sc⟩⟩ := ⟨_, rfl⟩
  rw [← hE]
  obtain rfl : E = false := by rw [hE]; simp [formedF, emptyF, RT.op, RT.course, RT.n, RT.d, RT.kids, t3]
  clear hE
  simp only [RT.v]
  have t3p : 0 < ks.length := by omega
  go_enter Tryz.func175, Tryz.ntmps175
  go_wp2_with fail
  refine (ruWithin_any _ _ _ _).mono ?_
  rw [T1.out]
  rintro e w1 ⟨rfl, rfl⟩
  go_wp2_with fail
  go_ret
  exact ⟨rfl, by go_grown⟩
 obtain rfl : ks = [] := List.eq_nil_of_length_eq_zero t3
 clear t3 hn
 simp only [List.length_nil]
 obtain ⟨E, hE⟩ : ∃ E, E = formedF ⟨5, co, nm, n, 0, [], ⟨sa, 0, sc⟩⟩ := ⟨_, rfl⟩
 rw [← hE]
 have hE2 : E = rightF ⟨5, co, nm, n, 0, [], ⟨sa, 0, sc⟩⟩ := by rw [hE]; unfold formedF; rw [show emptyF ⟨5, co, nm, n, 0, [], ⟨sa, 0, sc⟩⟩ = true by simp [emptyF, RT.op, RT.course, RT.n, RT.d, RT.kids], show (RT.op ⟨5, co, nm, n, 0, [], ⟨sa, 0, sc⟩⟩) = 5 by rfl, T1.out]; rfl
 have HC := Lib.hid (fun W => (ruK5_any ⟨5, co, nm, n, 0, [], ⟨sa, 0, sc⟩⟩ W))
 try simp only [RT.n, RT.d, RT.course, RT.kids] at HC
 have HE : Hid (E = rightF ⟨5, co, nm, n, 0, [], ⟨sa, 0, sc⟩⟩) := Lib.hid hE2
 clear hE hE2
 simp only [RT.v] at HC ⊢
 go_enter Tryz.func175, Tryz.ntmps175
 go_wp2_with fail
 refine (ruWithin_any _ _ _ _).mono ?_
 rw [T1.out]
 rintro e w1 ⟨rfl, rfl⟩
 go_wp2_with fail
 refine (HC.out _).mono ?_
 rintro e w2 ⟨rfl, hb2⟩
 have HB : Hid (Below w.heap.size w w2) := Lib.hid (Below.trans (by go_grown) (hb2.mono (by simp only [World.size_alloc]; omega)))
 clear hb2
 go_wp2_with fail
 go_ret
 exact ⟨by rw [HE.out]; rfl, HB.out⟩
set_option maxRecDepth 100000 in
set_option maxHeartbeats 1000000 in
theorem ruFormed6 (co : Int) (nm : ByteArray) (n d : Int) (ks : List RT) (sa : Option Addr) (sc : Nat) (w : World) (hk : KindsAt w) (hi : (⟨n, d⟩ : Ra).i64) (hn : ks.length ≤ maxLen) :
 Calls Tryz.prog 175 #[RT.v ⟨6, co, nm, n, d, ks, ⟨sa, ks.length, sc⟩⟩] w fun e w' => e = .returned (.bool (formedF ⟨6, co, nm, n, d, ks, ⟨sa, ks.length, sc⟩⟩)) ∧ Below w.heap.size w w' := by
 have T1 : Hid (inB 6 1 9 = true) := Lib.hid rfl
 have HI := Lib.hid hi
 have hk0 := hk 6 0 _ rfl
 have hk1 := hk 6 1 _ rfl
 have hk2 := hk 6 2 _ rfl
 have hk3 := hk 6 3 _ rfl
 have hk4 := hk 6 4 _ rfl
 have hk5 := hk 6 5 _ rfl
 have hlt : 0 < w.heap.size := cell_in hk0
 simp only [Nat.reduceMul, Nat.reduceAdd] at hk0 hk1 hk2 hk3 hk4 hk5
 clear hi hk
 unfold maxLen at hn
 by_cases t2 : d = 0
 case neg =>
  obtain ⟨E, hE⟩ : ∃ E, E = formedF ⟨6, co, nm, n, d, ks, ⟨sa, ks.length, sc⟩⟩ := ⟨_, rfl⟩
  rw [← hE]
  obtain rfl : E = false := by rw [hE]; simp [formedF, emptyF, RT.op, RT.course, RT.n, RT.d, RT.kids, t2]
  clear hE
  simp only [RT.v]
  go_enter Tryz.func175, Tryz.ntmps175
  go_wp2_with fail
  refine (ruWithin_any _ _ _ _).mono ?_
  rw [T1.out]
  rintro e w1 ⟨rfl, rfl⟩
  go_wp2_with fail
  go_ret
  exact ⟨rfl, by go_grown⟩
 subst t2
 by_cases t3 : ks.length = 0
 case neg =>
  obtain ⟨E, hE⟩ : ∃ E, E = formedF ⟨6, co, nm, n, 0, ks, ⟨sa, ks.length, sc⟩⟩ := ⟨_, rfl⟩
  rw [← hE]
  obtain rfl : E = false := by rw [hE]; simp [formedF, emptyF, RT.op, RT.course, RT.n, RT.d, RT.kids, t3]
  clear hE
  simp only [RT.v]
  have t3p : 0 < ks.length := by omega
  go_enter Tryz.func175, Tryz.ntmps175
  go_wp2_with fail
  refine (ruWithin_any _ _ _ _).mono ?_
  rw [T1.out]
  rintro e w1 ⟨rfl, rfl⟩
  go_wp2_with fail
  go_ret
  exact ⟨rfl, by go_grown⟩
 obtain rfl : ks = [] := List.eq_nil_of_length_eq_zero t3
 clear t3 hn
 simp only [List.length_nil]
 obtain ⟨E, hE⟩ : ∃ E, E = formedF ⟨6, co, nm, n, 0, [], ⟨sa, 0, sc⟩⟩ := ⟨_, rfl⟩
 rw [← hE]
 have hE2 : E = rightF ⟨6, co, nm, n, 0, [], ⟨sa, 0, sc⟩⟩ := by rw [hE]; unfold formedF; rw [show emptyF ⟨6, co, nm, n, 0, [], ⟨sa, 0, sc⟩⟩ = true by simp [emptyF, RT.op, RT.course, RT.n, RT.d, RT.kids], show (RT.op ⟨6, co, nm, n, 0, [], ⟨sa, 0, sc⟩⟩) = 6 by rfl, T1.out]; rfl
 have HC := Lib.hid (fun W => (ruK6_any ⟨6, co, nm, n, 0, [], ⟨sa, 0, sc⟩⟩ W))
 try simp only [RT.n, RT.d, RT.course, RT.kids] at HC
 have HE : Hid (E = rightF ⟨6, co, nm, n, 0, [], ⟨sa, 0, sc⟩⟩) := Lib.hid hE2
 clear hE hE2
 simp only [RT.v] at HC ⊢
 go_enter Tryz.func175, Tryz.ntmps175
 go_wp2_with fail
 refine (ruWithin_any _ _ _ _).mono ?_
 rw [T1.out]
 rintro e w1 ⟨rfl, rfl⟩
 go_wp2_with fail
 refine (HC.out _).mono ?_
 rintro e w2 ⟨rfl, hb2⟩
 have HB : Hid (Below w.heap.size w w2) := Lib.hid (Below.trans (by go_grown) (hb2.mono (by simp only [World.size_alloc]; omega)))
 clear hb2
 go_wp2_with fail
 go_ret
 exact ⟨by rw [HE.out]; rfl, HB.out⟩
set_option maxRecDepth 100000 in
set_option maxHeartbeats 1000000 in
theorem ruFormed7 (co : Int) (nm : ByteArray) (n d : Int) (ks : List RT) (sa : Option Addr) (sc : Nat) (w : World) (hk : KindsAt w) (hi : (⟨n, d⟩ : Ra).i64) (hn : ks.length ≤ maxLen) :
 Calls Tryz.prog 175 #[RT.v ⟨7, co, nm, n, d, ks, ⟨sa, ks.length, sc⟩⟩] w fun e w' => e = .returned (.bool (formedF ⟨7, co, nm, n, d, ks, ⟨sa, ks.length, sc⟩⟩)) ∧ Below w.heap.size w w' := by
 have T1 : Hid (inB 7 1 9 = true) := Lib.hid rfl
 have HI := Lib.hid hi
 have hk0 := hk 7 0 _ rfl
 have hk1 := hk 7 1 _ rfl
 have hk2 := hk 7 2 _ rfl
 have hk3 := hk 7 3 _ rfl
 have hk4 := hk 7 4 _ rfl
 have hk5 := hk 7 5 _ rfl
 have hlt : 0 < w.heap.size := cell_in hk0
 simp only [Nat.reduceMul, Nat.reduceAdd] at hk0 hk1 hk2 hk3 hk4 hk5
 clear hi hk
 unfold maxLen at hn
 by_cases t0 : co = 0
 case neg =>
  obtain ⟨E, hE⟩ : ∃ E, E = formedF ⟨7, co, nm, n, d, ks, ⟨sa, ks.length, sc⟩⟩ := ⟨_, rfl⟩
  rw [← hE]
  obtain rfl : E = false := by rw [hE]; simp [formedF, emptyF, RT.op, RT.course, RT.n, RT.d, RT.kids, t0]
  clear hE
  simp only [RT.v]
  go_enter Tryz.func175, Tryz.ntmps175
  go_wp2_with fail
  refine (ruWithin_any _ _ _ _).mono ?_
  rw [T1.out]
  rintro e w1 ⟨rfl, rfl⟩
  go_wp2_with fail
  go_ret
  exact ⟨rfl, by go_grown⟩
 subst t0
 by_cases t2 : d = 0
 case neg =>
  obtain ⟨E, hE⟩ : ∃ E, E = formedF ⟨7, 0, nm, n, d, ks, ⟨sa, ks.length, sc⟩⟩ := ⟨_, rfl⟩
  rw [← hE]
  obtain rfl : E = false := by rw [hE]; simp [formedF, emptyF, RT.op, RT.course, RT.n, RT.d, RT.kids, t2]
  clear hE
  simp only [RT.v]
  go_enter Tryz.func175, Tryz.ntmps175
  go_wp2_with fail
  refine (ruWithin_any _ _ _ _).mono ?_
  rw [T1.out]
  rintro e w1 ⟨rfl, rfl⟩
  go_wp2_with fail
  go_ret
  exact ⟨rfl, by go_grown⟩
 subst t2
 by_cases t3 : ks.length = 0
 case neg =>
  obtain ⟨E, hE⟩ : ∃ E, E = formedF ⟨7, 0, nm, n, 0, ks, ⟨sa, ks.length, sc⟩⟩ := ⟨_, rfl⟩
  rw [← hE]
  obtain rfl : E = false := by rw [hE]; simp [formedF, emptyF, RT.op, RT.course, RT.n, RT.d, RT.kids, t3]
  clear hE
  simp only [RT.v]
  have t3p : 0 < ks.length := by omega
  go_enter Tryz.func175, Tryz.ntmps175
  go_wp2_with fail
  refine (ruWithin_any _ _ _ _).mono ?_
  rw [T1.out]
  rintro e w1 ⟨rfl, rfl⟩
  go_wp2_with fail
  go_ret
  exact ⟨rfl, by go_grown⟩
 obtain rfl : ks = [] := List.eq_nil_of_length_eq_zero t3
 clear t3 hn
 simp only [List.length_nil]
 obtain ⟨E, hE⟩ : ∃ E, E = formedF ⟨7, 0, nm, n, 0, [], ⟨sa, 0, sc⟩⟩ := ⟨_, rfl⟩
 rw [← hE]
 have hE2 : E = rightF ⟨7, 0, nm, n, 0, [], ⟨sa, 0, sc⟩⟩ := by rw [hE]; unfold formedF; rw [show emptyF ⟨7, 0, nm, n, 0, [], ⟨sa, 0, sc⟩⟩ = true by simp [emptyF, RT.op, RT.course, RT.n, RT.d, RT.kids], show (RT.op ⟨7, 0, nm, n, 0, [], ⟨sa, 0, sc⟩⟩) = 7 by rfl, T1.out]; rfl
 have HC := Lib.hid (fun W => (ruK7_any ⟨7, 0, nm, n, 0, [], ⟨sa, 0, sc⟩⟩ W))
 try simp only [RT.n, RT.d, RT.course, RT.kids] at HC
 have HE : Hid (E = rightF ⟨7, 0, nm, n, 0, [], ⟨sa, 0, sc⟩⟩) := Lib.hid hE2
 clear hE hE2
 simp only [RT.v] at HC ⊢
 go_enter Tryz.func175, Tryz.ntmps175
 go_wp2_with fail
 refine (ruWithin_any _ _ _ _).mono ?_
 rw [T1.out]
 rintro e w1 ⟨rfl, rfl⟩
 go_wp2_with fail
 refine (HC.out _).mono ?_
 rintro e w2 ⟨rfl, hb2⟩
 have HB : Hid (Below w.heap.size w w2) := Lib.hid (Below.trans (by go_grown) (hb2.mono (by simp only [World.size_alloc]; omega)))
 clear hb2
 go_wp2_with fail
 go_ret
 exact ⟨by rw [HE.out]; rfl, HB.out⟩
set_option maxRecDepth 100000 in
set_option maxHeartbeats 1000000 in
theorem ruFormed8 (co : Int) (nm : ByteArray) (n d : Int) (ks : List RT) (sa : Option Addr) (sc : Nat) (w : World) (hk : KindsAt w) (hi : (⟨n, d⟩ : Ra).i64) (hn : ks.length ≤ maxLen) :
 Calls Tryz.prog 175 #[RT.v ⟨8, co, nm, n, d, ks, ⟨sa, ks.length, sc⟩⟩] w fun e w' => e = .returned (.bool (formedF ⟨8, co, nm, n, d, ks, ⟨sa, ks.length, sc⟩⟩)) ∧ Below w.heap.size w w' := by
 have T1 : Hid (inB 8 1 9 = true) := Lib.hid rfl
 have HI := Lib.hid hi
 have hk0 := hk 8 0 _ rfl
 have hk1 := hk 8 1 _ rfl
 have hk2 := hk 8 2 _ rfl
 have hk3 := hk 8 3 _ rfl
 have hk4 := hk 8 4 _ rfl
 have hk5 := hk 8 5 _ rfl
 have hlt : 0 < w.heap.size := cell_in hk0
 simp only [Nat.reduceMul, Nat.reduceAdd] at hk0 hk1 hk2 hk3 hk4 hk5
 clear hi hk
 unfold maxLen at hn
 by_cases t0 : co = 0
 case neg =>
  obtain ⟨E, hE⟩ : ∃ E, E = formedF ⟨8, co, nm, n, d, ks, ⟨sa, ks.length, sc⟩⟩ := ⟨_, rfl⟩
  rw [← hE]
  obtain rfl : E = false := by rw [hE]; simp [formedF, emptyF, RT.op, RT.course, RT.n, RT.d, RT.kids, t0]
  clear hE
  simp only [RT.v]
  go_enter Tryz.func175, Tryz.ntmps175
  go_wp2_with fail
  refine (ruWithin_any _ _ _ _).mono ?_
  rw [T1.out]
  rintro e w1 ⟨rfl, rfl⟩
  go_wp2_with fail
  go_ret
  exact ⟨rfl, by go_grown⟩
 subst t0
 by_cases t3 : ks.length = 0
 case neg =>
  obtain ⟨E, hE⟩ : ∃ E, E = formedF ⟨8, 0, nm, n, d, ks, ⟨sa, ks.length, sc⟩⟩ := ⟨_, rfl⟩
  rw [← hE]
  obtain rfl : E = false := by rw [hE]; simp [formedF, emptyF, RT.op, RT.course, RT.n, RT.d, RT.kids, t3]
  clear hE
  simp only [RT.v]
  have t3p : 0 < ks.length := by omega
  go_enter Tryz.func175, Tryz.ntmps175
  go_wp2_with fail
  refine (ruWithin_any _ _ _ _).mono ?_
  rw [T1.out]
  rintro e w1 ⟨rfl, rfl⟩
  go_wp2_with fail
  go_ret
  exact ⟨rfl, by go_grown⟩
 obtain rfl : ks = [] := List.eq_nil_of_length_eq_zero t3
 clear t3 hn
 simp only [List.length_nil]
 obtain ⟨E, hE⟩ : ∃ E, E = formedF ⟨8, 0, nm, n, d, [], ⟨sa, 0, sc⟩⟩ := ⟨_, rfl⟩
 rw [← hE]
 have hE2 : E = rightF ⟨8, 0, nm, n, d, [], ⟨sa, 0, sc⟩⟩ := by rw [hE]; unfold formedF; rw [show emptyF ⟨8, 0, nm, n, d, [], ⟨sa, 0, sc⟩⟩ = true by simp [emptyF, RT.op, RT.course, RT.n, RT.d, RT.kids], show (RT.op ⟨8, 0, nm, n, d, [], ⟨sa, 0, sc⟩⟩) = 8 by rfl, T1.out]; rfl
 have HC := Lib.hid (fun W => (ruK8_any ⟨8, 0, nm, n, d, [], ⟨sa, 0, sc⟩⟩ W HI.out))
 try simp only [RT.n, RT.d, RT.course, RT.kids] at HC
 have HE : Hid (E = rightF ⟨8, 0, nm, n, d, [], ⟨sa, 0, sc⟩⟩) := Lib.hid hE2
 clear hE hE2
 simp only [RT.v] at HC ⊢
 go_enter Tryz.func175, Tryz.ntmps175
 go_wp2_with fail
 refine (ruWithin_any _ _ _ _).mono ?_
 rw [T1.out]
 rintro e w1 ⟨rfl, rfl⟩
 go_wp2_with fail
 refine (HC.out _).mono ?_
 rintro e w2 ⟨rfl, hb2⟩
 have HB : Hid (Below w.heap.size w w2) := Lib.hid (Below.trans (by go_grown) (hb2.mono (by simp only [World.size_alloc]; omega)))
 clear hb2
 go_wp2_with fail
 go_ret
 exact ⟨by rw [HE.out]; rfl, HB.out⟩
set_option maxRecDepth 100000 in
set_option maxHeartbeats 1000000 in
theorem ruFormed9 (co : Int) (nm : ByteArray) (n d : Int) (ks : List RT) (sa : Option Addr) (sc : Nat) (w : World) (hk : KindsAt w) (hi : (⟨n, d⟩ : Ra).i64) (hn : ks.length ≤ maxLen) :
 Calls Tryz.prog 175 #[RT.v ⟨9, co, nm, n, d, ks, ⟨sa, ks.length, sc⟩⟩] w fun e w' => e = .returned (.bool (formedF ⟨9, co, nm, n, d, ks, ⟨sa, ks.length, sc⟩⟩)) ∧ Below w.heap.size w w' := by
 have T1 : Hid (inB 9 1 9 = true) := Lib.hid rfl
 have HI := Lib.hid hi
 have hk0 := hk 9 0 _ rfl
 have hk1 := hk 9 1 _ rfl
 have hk2 := hk 9 2 _ rfl
 have hk3 := hk 9 3 _ rfl
 have hk4 := hk 9 4 _ rfl
 have hk5 := hk 9 5 _ rfl
 have hlt : 0 < w.heap.size := cell_in hk0
 simp only [Nat.reduceMul, Nat.reduceAdd] at hk0 hk1 hk2 hk3 hk4 hk5
 clear hi hk
 unfold maxLen at hn
 by_cases t1 : n = 0
 case neg =>
  obtain ⟨E, hE⟩ : ∃ E, E = formedF ⟨9, co, nm, n, d, ks, ⟨sa, ks.length, sc⟩⟩ := ⟨_, rfl⟩
  rw [← hE]
  obtain rfl : E = false := by rw [hE]; simp [formedF, emptyF, RT.op, RT.course, RT.n, RT.d, RT.kids, t1]
  clear hE
  simp only [RT.v]
  go_enter Tryz.func175, Tryz.ntmps175
  go_wp2_with fail
  refine (ruWithin_any _ _ _ _).mono ?_
  rw [T1.out]
  rintro e w1 ⟨rfl, rfl⟩
  go_wp2_with fail
  go_ret
  exact ⟨rfl, by go_grown⟩
 subst t1
 by_cases t2 : d = 0
 case neg =>
  obtain ⟨E, hE⟩ : ∃ E, E = formedF ⟨9, co, nm, 0, d, ks, ⟨sa, ks.length, sc⟩⟩ := ⟨_, rfl⟩
  rw [← hE]
  obtain rfl : E = false := by rw [hE]; simp [formedF, emptyF, RT.op, RT.course, RT.n, RT.d, RT.kids, t2]
  clear hE
  simp only [RT.v]
  go_enter Tryz.func175, Tryz.ntmps175
  go_wp2_with fail
  refine (ruWithin_any _ _ _ _).mono ?_
  rw [T1.out]
  rintro e w1 ⟨rfl, rfl⟩
  go_wp2_with fail
  go_ret
  exact ⟨rfl, by go_grown⟩
 subst t2
 by_cases t3 : ks.length = 0
 case neg =>
  obtain ⟨E, hE⟩ : ∃ E, E = formedF ⟨9, co, nm, 0, 0, ks, ⟨sa, ks.length, sc⟩⟩ := ⟨_, rfl⟩
  rw [← hE]
  obtain rfl : E = false := by rw [hE]; simp [formedF, emptyF, RT.op, RT.course, RT.n, RT.d, RT.kids, t3]
  clear hE
  simp only [RT.v]
  have t3p : 0 < ks.length := by omega
  go_enter Tryz.func175, Tryz.ntmps175
  go_wp2_with fail
  refine (ruWithin_any _ _ _ _).mono ?_
  rw [T1.out]
  rintro e w1 ⟨rfl, rfl⟩
  go_wp2_with fail
  go_ret
  exact ⟨rfl, by go_grown⟩
 obtain rfl : ks = [] := List.eq_nil_of_length_eq_zero t3
 clear t3 hn
 simp only [List.length_nil]
 obtain ⟨E, hE⟩ : ∃ E, E = formedF ⟨9, co, nm, 0, 0, [], ⟨sa, 0, sc⟩⟩ := ⟨_, rfl⟩
 rw [← hE]
 have hE2 : E = rightF ⟨9, co, nm, 0, 0, [], ⟨sa, 0, sc⟩⟩ := by rw [hE]; unfold formedF; rw [show emptyF ⟨9, co, nm, 0, 0, [], ⟨sa, 0, sc⟩⟩ = true by simp [emptyF, RT.op, RT.course, RT.n, RT.d, RT.kids], show (RT.op ⟨9, co, nm, 0, 0, [], ⟨sa, 0, sc⟩⟩) = 9 by rfl, T1.out]; rfl
 have HC := Lib.hid (fun W => (ruCourse_any ⟨9, co, nm, 0, 0, [], ⟨sa, 0, sc⟩⟩ W))
 try simp only [RT.n, RT.d, RT.course, RT.kids] at HC
 have HE : Hid (E = rightF ⟨9, co, nm, 0, 0, [], ⟨sa, 0, sc⟩⟩) := Lib.hid hE2
 clear hE hE2
 simp only [RT.v] at HC ⊢
 go_enter Tryz.func175, Tryz.ntmps175
 go_wp2_with fail
 refine (ruWithin_any _ _ _ _).mono ?_
 rw [T1.out]
 rintro e w1 ⟨rfl, rfl⟩
 go_wp2_with fail
 refine (HC.out _).mono ?_
 rintro e w2 ⟨rfl, hb2⟩
 have HB : Hid (Below w.heap.size w w2) := Lib.hid (Below.trans (by go_grown) (hb2.mono (by simp only [World.size_alloc]; omega)))
 clear hb2
 go_wp2_with fail
 go_ret
 exact ⟨by rw [HE.out]; rfl, HB.out⟩
theorem ruFormed0 (r : RT) (w : World) (h : inB r.op 1 9 = false) :
 Calls Tryz.prog 175 #[r.v] w fun e w' => e = .returned (.bool (formedF r)) ∧ Below w.heap.size w w' := by
 have HE : Hid (formedF r = false) := Lib.hid (by unfold formedF; rw [h]; rfl)
 rw [HE.out]
 obtain ⟨op, co, nm, n, d, ks, s⟩ := r
 have T1 := Lib.hid h
 simp only [RT.op] at T1
 clear h HE
 simp only [RT.v]
 go_enter Tryz.func175, Tryz.ntmps175
 go_wp2_with fail
 refine (ruWithin_any _ _ _ _).mono ?_
 rw [T1.out]
 rintro e w1 ⟨rfl, rfl⟩
 go_wp2_with fail
 go_ret
 exact ⟨rfl, by go_grown⟩
theorem ruFormed_any {P : Nat → Prop} (r : RT) (w : World) (h : r.Ok w P) (hk : KindsAt w) :
 Calls Tryz.prog 175 #[r.v] w fun e w' => e = .returned (.bool (formedF r)) ∧ Below w.heap.size w w' := by
 cases h1 : inB r.op 1 9
 ·exact ruFormed0 r w h1
 ·cases h with
  | mk hi hs hks =>
    rename_i op co nm n d ks s
    obtain ⟨sa, sn, sc⟩ := s
    have hl := hs.1
    have hm : sn ≤ maxLen := Nat.le_trans hs.2.1 hs.2.2.1
    simp only at hl
    subst hl
    have h2 : 1 ≤ op ∧ op ≤ 9 := by simp only [RT.op] at h1; unfold inB at h1; simp only [Bool.and_eq_true, decide_eq_true_eq] at h1; exact h1
    have h3 : op = 1 ∨ op = 2 ∨ op = 3 ∨ op = 4 ∨ op = 5 ∨ op = 6 ∨ op = 7 ∨ op = 8 ∨ op = 9 := by omega
    rcases h3 with rfl | rfl | rfl | rfl | rfl | rfl | rfl | rfl | rfl
    ·exact ruFormed1 co nm n d ks sa sc w hk hi hm
    ·exact ruFormed2 co nm n d ks sa sc w hk hi hm
    ·exact ruFormed3 co nm n d ks sa sc w hk hi hm
    ·exact ruFormed4 co nm n d ks sa sc w hk hi hm
    ·exact ruFormed5 co nm n d ks sa sc w hk hi hm
    ·exact ruFormed6 co nm n d ks sa sc w hk hi hm
    ·exact ruFormed7 co nm n d ks sa sc w hk hi hm
    ·exact ruFormed8 co nm n d ks sa sc w hk hi hm
    ·exact ruFormed9 co nm n d ks sa sc w hk hi hm
end Go.Proofs.YtalmbigebjbaoaaGreatDoor
