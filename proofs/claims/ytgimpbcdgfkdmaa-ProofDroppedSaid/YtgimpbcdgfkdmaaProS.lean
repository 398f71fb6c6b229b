/- The examples of chapter 20. -/
import Derived.Test.YtgimpbcdgfkdmaaProO
import Derived.Deep.Cut
namespace Go.Proofs.Ytgimpbcdgfkdmaa
open Go.RowKit Go.Shelf
set_option linter.unusedSimpArgs false
set_option linter.unusedVariables false

def everyT : Nat → Prop := fun _ => True
theorem SlR.lit {α : Type} {en : α → List Value} {sz : Nat} (hen : ∀ y, (en y).length = sz) (w : World) (xs : List α) (cs : Array Value) (t : TypeId) (hcs : cs.toList = xs.flatMap en) (hm : xs.length ≤ maxLen) (n : Nat) (hn : n = xs.length) :
    SlR (w.alloc (.cells cs t)) everyT sz en ⟨some ⟨w.heap.size, 0, none⟩, n, n⟩ xs := by
  subst hn
  refine ⟨rfl, Nat.le_refl _, hm, (fun h => by cases h), ?_, fun _ _ _ => trivial⟩
  have h := reads_new w sz en xs cs t (fun i x j v hi hj => by
    rw [← Array.getElem?_toList, hcs]
    exact flat_get hen xs i x j v hi hj)
  exact h.more (by simp)
def sixP : Pg := ⟨⟨#[]⟩, 0, 1, 0, ⟨0, 1⟩, [⟨6, 0, false, [1]⟩]⟩
def zeroP : Pg := ⟨⟨#[]⟩, 0, 0, 0, ⟨0, 0⟩, []⟩
def lP : List At := [⟨1, 0, 3, 0, 4⟩]
theorem six_i64 : sixP.mean.i64 := ⟨⟨by decide, by decide⟩, ⟨by decide, by decide⟩⟩
theorem zero_i64 : zeroP.mean.i64 := ⟨⟨by decide, by decide⟩, ⟨by decide, by decide⟩⟩
theorem val1 : missP sixP [] = (6, 0) := by decide +kernel
theorem val2 : boundP sixP [] [true, false, false] = (6, 0) := by decide +kernel
theorem val3 : boundP sixP [] [true, true, false] = (0, 0) := by decide +kernel
theorem val4 : boundP sixP [] [false, false, false] = (0, 200) := by decide +kernel
theorem val5 : missP zeroP [] = (0, 190) := by decide +kernel
theorem val6 : auditE sixP [] [] 6 [true, false, false] = 0 := by decide +kernel
theorem val7 : auditE sixP lP [⟨0, 0, 4⟩] 2 [true, false, false, false] = 0 := by decide +kernel
theorem val8 : auditE sixP lP [⟨0, 0, 4⟩] 3 [true, false, false, false] = 200 := by decide +kernel
theorem val9 : allowP sixP lP [⟨0, 0, 4⟩] = 0 := by decide +kernel
theorem val10 : allowP sixP lP [⟨0, 0, 5⟩] = 200 := by decide +kernel

set_option maxHeartbeats 2000000 in
theorem six_any (w : World) :
    Calls Try.prog 22 #[] w fun e w' => (∃ g : Nat, e = .returned (.agg #[.string ⟨#[]⟩, .int .i64 0, .int .i64 1, .int .i64 0, .int .i64 0, .int .i64 1, .slice (some ⟨g, 0, none⟩) 1 1]) ∧ Rqs w' everyT ⟨some ⟨g, 0, none⟩, 1, 1⟩ sixP.reqs) ∧ Below w.heap.size w w' := by
  go_enter Try.func22, Try.ntmps22
  go_wp2_with fail
  refine bodyPost_ret (v := .agg #[.string ⟨#[]⟩, .int .i64 0, .int .i64 1, .int .i64 0, .int .i64 0, .int .i64 1, .slice (some ⟨w.heap.size + 1 + 1, 0, none⟩) 1 1]) (by simp [results, Try.results22, go_sem]) rfl ⟨⟨w.heap.size + 1 + 1, rfl, ?_⟩, (((Below.refl _ _).alloc (Nat.le_refl _) _).alloc (by simp) _).alloc (by simp; omega) _⟩
  refine ⟨[⟨⟨#[]⟩, 6, 0, false, ⟨none, 0, 0⟩, ⟨some ⟨w.heap.size + 1, 0, none⟩, 1, 1⟩⟩], ?_, rfl, fun i h q h1 h2 => ?_⟩
  · have := SlR.lit RqH.enc_len ((w.alloc (.cells #[.string ⟨#[]⟩, .int .i64 0, .int .i64 1, .int .i64 0, .int .i64 0, .int .i64 1, .slice (some ⟨w.heap.size + 1 + 1, 0, none⟩) 1 1] 26)).alloc (.cells #[.int .i64 1] 3)) [(⟨⟨#[]⟩, 6, 0, false, ⟨none, 0, 0⟩, ⟨some ⟨w.heap.size + 1, 0, none⟩, 1, 1⟩⟩ : RqH)] #[.string ⟨#[]⟩, .int .i64 6, .int .i64 0, .bool false, .slice none 0 0, .slice (some ⟨w.heap.size + 1, 0, none⟩) 1 1] 57 rfl (by show 1 ≤ maxLen; decide) 1 rfl
    simpa using this
  · cases i with
    | zero =>
      simp [sixP] at h1 h2
      subst h1 h2
      refine ⟨rfl, rfl, rfl, ?_⟩
      have := (SlR.lit (en := intE) (sz := 1) (fun _ => rfl) (w.alloc (.cells #[.string ⟨#[]⟩, .int .i64 0, .int .i64 1, .int .i64 0, .int .i64 0, .int .i64 1, .slice (some ⟨w.heap.size + 1 + 1, 0, none⟩) 1 1] 26)) [1] #[.int .i64 1] 3 rfl (by decide) 1 rfl).step ((Below.refl _ _).alloc (Nat.le_refl _) (.cells #[.string ⟨#[]⟩, .int .i64 6, .int .i64 0, .bool false, .slice none 0 0, .slice (some ⟨w.heap.size + 1, 0, none⟩) 1 1] 57))
      simpa using this
    | succ i => simp at h1

set_option maxRecDepth 100000 in
set_option maxHeartbeats 4000000 in
theorem proSane_any (w : World) :
    Calls Try.prog 11 #[] w fun e w' => e = .returned (.bool true) ∧ Below w.heap.size w w' := by
  go_enter Try.func11, Try.ntmps11
  go_wp2_with fail
  refine (six_any _).mono ?_
  rintro e w1 ⟨⟨g, rfl, hr⟩, hb1⟩
  have HR := Lib.hid hr
  have HB := Lib.hid hb1
  clear hr hb1
  have hM : Hid (∀ (W : World) (h : Rqs W everyT ⟨some ⟨g, 0, none⟩, 1, 1⟩ sixP.reqs), Calls Try.prog 13 #[.agg #[.string ⟨#[]⟩, .int .i64 0, .int .i64 1, .int .i64 0, .int .i64 0, .int .i64 1, .slice (some ⟨g, 0, none⟩) 1 1], .slice none 0 0] W fun e w' => e = .returned (.tuple #[.int .i64 6, .int .i64 0]) ∧ Below W.heap.size W w') := Lib.hid (fun W h => by
    have := Missing_any (P := everyT) sixP ⟨some ⟨g, 0, none⟩, 1, 1⟩ [] none 0 W h six_i64 Reads.nil_ (by decide)
    rw [val1] at this
    exact this)
  have hZ : Hid (∀ (W : World) (h : True), Calls Try.prog 13 #[.agg #[.string ⟨#[]⟩, .int .i64 0, .int .i64 0, .int .i64 0, .int .i64 0, .int .i64 0, .slice none 0 0], .slice none 0 0] W fun e w' => e = .returned (.tuple #[.int .i64 0, .int .i64 190]) ∧ Below W.heap.size W w') := Lib.hid (fun W h => by
    have := Missing_any (P := everyT) zeroP ⟨none, 0, 0⟩ [] none 0 W ⟨[], SlR.nil_ _ _ _ _, rfl, by simp⟩ zero_i64 Reads.nil_ (by decide)
    rw [val5] at this
    exact this)
  have hB0 : Hid (∀ (W : World) (h : Rqs W everyT ⟨some ⟨g, 0, none⟩, 1, 1⟩ sixP.reqs) (q : Nat) (hc : SlR W everyT 1 boolE ⟨some ⟨q, 0, none⟩, 3, 3⟩ [true, false, false]), Calls Try.prog 15 #[.agg #[.string ⟨#[]⟩, .int .i64 0, .int .i64 1, .int .i64 0, .int .i64 0, .int .i64 1, .slice (some ⟨g, 0, none⟩) 1 1], .slice none 0 0, .slice (some ⟨q, 0, none⟩) 3 3] W fun e w' => e = .returned (.tuple #[.int .i64 6, .int .i64 0]) ∧ Below W.heap.size W w') := Lib.hid (fun W h q hc => by
    have := Bound_any (P := everyT) sixP ⟨some ⟨g, 0, none⟩, 1, 1⟩ [] none 0 [true, false, false] (some ⟨q, 0, none⟩) 3 W h six_i64 (SlR.nil_ _ _ _ _) hc (by decide)
    rw [val2] at this
    exact this)
  have hB1 : Hid (∀ (W : World) (h : Rqs W everyT ⟨some ⟨g, 0, none⟩, 1, 1⟩ sixP.reqs) (q : Nat) (hc : SlR W everyT 1 boolE ⟨some ⟨q, 0, none⟩, 3, 3⟩ [true, true, false]), Calls Try.prog 15 #[.agg #[.string ⟨#[]⟩, .int .i64 0, .int .i64 1, .int .i64 0, .int .i64 0, .int .i64 1, .slice (some ⟨g, 0, none⟩) 1 1], .slice none 0 0, .slice (some ⟨q, 0, none⟩) 3 3] W fun e w' => e = .returned (.tuple #[.int .i64 0, .int .i64 0]) ∧ Below W.heap.size W w') := Lib.hid (fun W h q hc => by
    have := Bound_any (P := everyT) sixP ⟨some ⟨g, 0, none⟩, 1, 1⟩ [] none 0 [true, true, false] (some ⟨q, 0, none⟩) 3 W h six_i64 (SlR.nil_ _ _ _ _) hc (by decide)
    rw [val3] at this
    exact this)
  have hB2 : Hid (∀ (W : World) (h : Rqs W everyT ⟨some ⟨g, 0, none⟩, 1, 1⟩ sixP.reqs) (q : Nat) (hc : SlR W everyT 1 boolE ⟨some ⟨q, 0, none⟩, 3, 3⟩ [false, false, false]), Calls Try.prog 15 #[.agg #[.string ⟨#[]⟩, .int .i64 0, .int .i64 1, .int .i64 0, .int .i64 0, .int .i64 1, .slice (some ⟨g, 0, none⟩) 1 1], .slice none 0 0, .slice (some ⟨q, 0, none⟩) 3 3] W fun e w' => e = .returned (.tuple #[.int .i64 0, .int .i64 200]) ∧ Below W.heap.size W w') := Lib.hid (fun W h q hc => by
    have := Bound_any (P := everyT) sixP ⟨some ⟨g, 0, none⟩, 1, 1⟩ [] none 0 [false, false, false] (some ⟨q, 0, none⟩) 3 W h six_i64 (SlR.nil_ _ _ _ _) hc (by decide)
    rw [val4] at this
    exact this)
  have hC0 : Hid (∀ (W : World) (h : Rqs W everyT ⟨some ⟨g, 0, none⟩, 1, 1⟩ sixP.reqs) (q : Nat) (hc : SlR W everyT 1 boolE ⟨some ⟨q, 0, none⟩, 3, 3⟩ [true, false, false]), Calls Try.prog 19 #[.agg #[.string ⟨#[]⟩, .int .i64 0, .int .i64 1, .int .i64 0, .int .i64 0, .int .i64 1, .slice (some ⟨g, 0, none⟩) 1 1], .slice none 0 0, .agg #[.slice none 0 0, .int .i64 6, .slice (some ⟨q, 0, none⟩) 3 3]] W fun e w' => e = .returned (.int .i64 0) ∧ Below W.heap.size W w') := Lib.hid (fun W h q hc => by
    have := ProCheck_any (P := everyT) sixP ⟨some ⟨g, 0, none⟩, 1, 1⟩ [] none 0 [] none 0 6 [true, false, false] (some ⟨q, 0, none⟩) 3 W h six_i64 (SlR.nil_ _ _ _ _) Reads.nil_ hc (by decide) (by decide)
    rw [val6] at this
    exact this)
  have hC1 : Hid (∀ (W : World) (h : Rqs W everyT ⟨some ⟨g, 0, none⟩, 1, 1⟩ sixP.reqs) (lb : Nat) (hl : SlR W everyT 5 At.enc ⟨some ⟨lb, 0, none⟩, 1, 1⟩ lP) (ub : Nat) (hu : SlR W everyT 3 Us.enc ⟨some ⟨ub, 0, none⟩, 1, 1⟩ [⟨0, 0, 4⟩]) (q : Nat) (hc : SlR W everyT 1 boolE ⟨some ⟨q, 0, none⟩, 4, 4⟩ [true, false, false, false]), Calls Try.prog 19 #[.agg #[.string ⟨#[]⟩, .int .i64 0, .int .i64 1, .int .i64 0, .int .i64 0, .int .i64 1, .slice (some ⟨g, 0, none⟩) 1 1], .slice (some ⟨lb, 0, none⟩) 1 1, .agg #[.slice (some ⟨ub, 0, none⟩) 1 1, .int .i64 2, .slice (some ⟨q, 0, none⟩) 4 4]] W fun e w' => e = .returned (.int .i64 0) ∧ Below W.heap.size W w') := Lib.hid (fun W h lb hl ub hu q hc => by
    have := ProCheck_any (P := everyT) sixP ⟨some ⟨g, 0, none⟩, 1, 1⟩ lP (some ⟨lb, 0, none⟩) 1 [⟨0, 0, 4⟩] (some ⟨ub, 0, none⟩) 1 2 [true, false, false, false] (some ⟨q, 0, none⟩) 4 W h six_i64 hl hu.reads hc (by decide) (by decide)
    rw [val7] at this
    exact this)
  have hC2 : Hid (∀ (W : World) (h : Rqs W everyT ⟨some ⟨g, 0, none⟩, 1, 1⟩ sixP.reqs) (lb : Nat) (hl : SlR W everyT 5 At.enc ⟨some ⟨lb, 0, none⟩, 1, 1⟩ lP) (ub : Nat) (hu : SlR W everyT 3 Us.enc ⟨some ⟨ub, 0, none⟩, 1, 1⟩ [⟨0, 0, 4⟩]) (q : Nat) (hc : SlR W everyT 1 boolE ⟨some ⟨q, 0, none⟩, 4, 4⟩ [true, false, false, false]), Calls Try.prog 19 #[.agg #[.string ⟨#[]⟩, .int .i64 0, .int .i64 1, .int .i64 0, .int .i64 0, .int .i64 1, .slice (some ⟨g, 0, none⟩) 1 1], .slice (some ⟨lb, 0, none⟩) 1 1, .agg #[.slice (some ⟨ub, 0, none⟩) 1 1, .int .i64 3, .slice (some ⟨q, 0, none⟩) 4 4]] W fun e w' => e = .returned (.int .i64 200) ∧ Below W.heap.size W w') := Lib.hid (fun W h lb hl ub hu q hc => by
    have := ProCheck_any (P := everyT) sixP ⟨some ⟨g, 0, none⟩, 1, 1⟩ lP (some ⟨lb, 0, none⟩) 1 [⟨0, 0, 4⟩] (some ⟨ub, 0, none⟩) 1 3 [true, false, false, false] (some ⟨q, 0, none⟩) 4 W h six_i64 hl hu.reads hc (by decide) (by decide)
    rw [val8] at this
    exact this)
  have hA1 : Hid (∀ (W : World) (h : Rqs W everyT ⟨some ⟨g, 0, none⟩, 1, 1⟩ sixP.reqs) (lb : Nat) (hl : SlR W everyT 5 At.enc ⟨some ⟨lb, 0, none⟩, 1, 1⟩ lP) (ub : Nat) (hu : SlR W everyT 3 Us.enc ⟨some ⟨ub, 0, none⟩, 1, 1⟩ [⟨0, 0, 4⟩]), Calls Try.prog 17 #[.agg #[.string ⟨#[]⟩, .int .i64 0, .int .i64 1, .int .i64 0, .int .i64 0, .int .i64 1, .slice (some ⟨g, 0, none⟩) 1 1], .slice (some ⟨lb, 0, none⟩) 1 1, .slice (some ⟨ub, 0, none⟩) 1 1] W fun e w' => e = .returned (.int .i64 0) ∧ Below W.heap.size W w') := Lib.hid (fun W h lb hl ub hu => by
    have := Allowed_any (P := everyT) sixP ⟨some ⟨g, 0, none⟩, 1, 1⟩ lP (some ⟨lb, 0, none⟩) 1 [⟨0, 0, 4⟩] (some ⟨ub, 0, none⟩) 1 W h six_i64 hl.reads hu.reads (by decide) (by decide)
    rw [val9] at this
    exact this)
  have hA2 : Hid (∀ (W : World) (h : Rqs W everyT ⟨some ⟨g, 0, none⟩, 1, 1⟩ sixP.reqs) (lb : Nat) (hl : SlR W everyT 5 At.enc ⟨some ⟨lb, 0, none⟩, 1, 1⟩ lP) (ub : Nat) (hu : SlR W everyT 3 Us.enc ⟨some ⟨ub, 0, none⟩, 1, 1⟩ [⟨0, 0, 5⟩]), Calls Try.prog 17 #[.agg #[.string ⟨#[]⟩, .int .i64 0, .int .i64 1, .int .i64 0, .int .i64 0, .int .i64 1, .slice (some ⟨g, 0, none⟩) 1 1], .slice (some ⟨lb, 0, none⟩) 1 1, .slice (some ⟨ub, 0, none⟩) 1 1] W fun e w' => e = .returned (.int .i64 200) ∧ Below W.heap.size W w') := Lib.hid (fun W h lb hl ub hu => by
    have := Allowed_any (P := everyT) sixP ⟨some ⟨g, 0, none⟩, 1, 1⟩ lP (some ⟨lb, 0, none⟩) 1 [⟨0, 0, 5⟩] (some ⟨ub, 0, none⟩) 1 W h six_i64 hl.reads hu.reads (by decide) (by decide)
    rw [val10] at this
    exact this)
  go_wp2_with fail
  obtain ⟨W2, hW_W2⟩ : ∃ X, X = w1.alloc (.cells #[.string ⟨#[]⟩, .int .i64 0, .int .i64 1, .int .i64 0, .int .i64 0, .int .i64 1, .slice (some ⟨g, 0, none⟩) 1 1] 26) := ⟨_, rfl⟩
  have hb_W2 : Below w1.heap.size w1 W2 := by rw [hW_W2]; exact (Below.refl _ _).alloc (Nat.le_refl _) _
  have hf_W2 := Bx.new w1 (#[.string ⟨#[]⟩, .int .i64 0, .int .i64 1, .int .i64 0, .int .i64 0, .int .i64 1, .slice (some ⟨g, 0, none⟩) 1 1]).toList 26
  rw [← hW_W2] at hf_W2
  have HP := Lib.hid hf_W2
  clear hf_W2
  have HZ_W2 : Hid (W2.heap.size = w1.heap.size + 1) := Lib.hid (by rw [hW_W2]; simp)
  rw [← hW_W2]
  clear hW_W2
  have S_W2 : Below w1.heap.size w1 W2 := hb_W2
  have HR := Lib.hid (HR.out.step S_W2)
  have HB := Lib.hid (HB.out.trans (S_W2.mono HB.out.size))
  have z_W2 := S_W2.size
  simp only at HP
  refine (hM.out _ HR.out).mono ?_
  rintro e w3 ⟨rfl, hb3⟩
  have S_w3 : Below W2.heap.size W2 w3 := hb3
  have HR := Lib.hid (HR.out.step S_w3)
  have HB := Lib.hid (HB.out.trans (S_w3.mono HB.out.size))
  have HP := Lib.hid (HP.out.step S_w3)
  have z_w3 := S_w3.size
  have p0 := HP.out.1 0 _ rfl
  have p1 := HP.out.1 1 _ rfl
  have p2 := HP.out.1 2 _ rfl
  have p3 := HP.out.1 3 _ rfl
  have p4 := HP.out.1 4 _ rfl
  have p5 := HP.out.1 5 _ rfl
  have p6 := HP.out.1 6 _ rfl
  have pz := HP.out.2.2
  go_wp2_with fail
  clear p0 p1 p2 p3 p4 p5 p6 pz
  obtain ⟨W4, hW_W4⟩ : ∃ X, X = w3.alloc (.cells #[.bool true, .bool false, .bool false] 4) := ⟨_, rfl⟩
  have hb_W4 : Below w3.heap.size w3 W4 := by rw [hW_W4]; exact (Below.refl _ _).alloc (Nat.le_refl _) _
  have hf_W4 := SlR.lit (en := boolE) (sz := 1) (fun _ => rfl) w3 [true, false, false] #[.bool true, .bool false, .bool false] 4 rfl (by decide) 3 rfl
  rw [← hW_W4] at hf_W4
  have HS := Lib.hid hf_W4
  clear hf_W4
  have HZ_W4 : Hid (W4.heap.size = w3.heap.size + 1) := Lib.hid (by rw [hW_W4]; simp)
  rw [← hW_W4]
  clear hW_W4
  have S_W4 : Below w3.heap.size w3 W4 := hb_W4
  have HR := Lib.hid (HR.out.step S_W4)
  have HB := Lib.hid (HB.out.trans (S_W4.mono HB.out.size))
  have HP := Lib.hid (HP.out.step S_W4)
  have z_W4 := S_W4.size
  refine (hB0.out _ HR.out _ HS.out).mono ?_
  rintro e w5 ⟨rfl, hbw5⟩
  clear HS
  have S_w5 : Below W4.heap.size W4 w5 := hbw5
  have HR := Lib.hid (HR.out.step S_w5)
  have HB := Lib.hid (HB.out.trans (S_w5.mono HB.out.size))
  have HP := Lib.hid (HP.out.step S_w5)
  have z_w5 := S_w5.size
  have p0 := HP.out.1 0 _ rfl
  have p1 := HP.out.1 1 _ rfl
  have p2 := HP.out.1 2 _ rfl
  have p3 := HP.out.1 3 _ rfl
  have p4 := HP.out.1 4 _ rfl
  have p5 := HP.out.1 5 _ rfl
  have p6 := HP.out.1 6 _ rfl
  have pz := HP.out.2.2
  go_wp2_with fail
  clear p0 p1 p2 p3 p4 p5 p6 pz
  obtain ⟨W6, hW_W6⟩ : ∃ X, X = w5.alloc (.cells #[.bool true, .bool true, .bool false] 4) := ⟨_, rfl⟩
  have hb_W6 : Below w5.heap.size w5 W6 := by rw [hW_W6]; exact (Below.refl _ _).alloc (Nat.le_refl _) _
  have hf_W6 := SlR.lit (en := boolE) (sz := 1) (fun _ => rfl) w5 [true, true, false] #[.bool true, .bool true, .bool false] 4 rfl (by decide) 3 rfl
  rw [← hW_W6] at hf_W6
  have HS := Lib.hid hf_W6
  clear hf_W6
  have HZ_W6 : Hid (W6.heap.size = w5.heap.size + 1) := Lib.hid (by rw [hW_W6]; simp)
  rw [← hW_W6]
  clear hW_W6
  have S_W6 : Below w5.heap.size w5 W6 := hb_W6
  have HR := Lib.hid (HR.out.step S_W6)
  have HB := Lib.hid (HB.out.trans (S_W6.mono HB.out.size))
  have HP := Lib.hid (HP.out.step S_W6)
  have z_W6 := S_W6.size
  refine (hB1.out _ HR.out _ HS.out).mono ?_
  rintro e w7 ⟨rfl, hbw7⟩
  clear HS
  have S_w7 : Below W6.heap.size W6 w7 := hbw7
  have HR := Lib.hid (HR.out.step S_w7)
  have HB := Lib.hid (HB.out.trans (S_w7.mono HB.out.size))
  have HP := Lib.hid (HP.out.step S_w7)
  have z_w7 := S_w7.size
  have p0 := HP.out.1 0 _ rfl
  have p1 := HP.out.1 1 _ rfl
  have p2 := HP.out.1 2 _ rfl
  have p3 := HP.out.1 3 _ rfl
  have p4 := HP.out.1 4 _ rfl
  have p5 := HP.out.1 5 _ rfl
  have p6 := HP.out.1 6 _ rfl
  have pz := HP.out.2.2
  go_wp2_with fail
  clear p0 p1 p2 p3 p4 p5 p6 pz
  obtain ⟨W8, hW_W8⟩ : ∃ X, X = w7.alloc (.cells #[.bool false, .bool false, .bool false] 4) := ⟨_, rfl⟩
  have hb_W8 : Below w7.heap.size w7 W8 := by rw [hW_W8]; exact (Below.refl _ _).alloc (Nat.le_refl _) _
  have hf_W8 := SlR.lit (en := boolE) (sz := 1) (fun _ => rfl) w7 [false, false, false] #[.bool false, .bool false, .bool false] 4 rfl (by decide) 3 rfl
  rw [← hW_W8] at hf_W8
  have HS := Lib.hid hf_W8
  clear hf_W8
  have HZ_W8 : Hid (W8.heap.size = w7.heap.size + 1) := Lib.hid (by rw [hW_W8]; simp)
  rw [← hW_W8]
  clear hW_W8
  have S_W8 : Below w7.heap.size w7 W8 := hb_W8
  have HR := Lib.hid (HR.out.step S_W8)
  have HB := Lib.hid (HB.out.trans (S_W8.mono HB.out.size))
  have HP := Lib.hid (HP.out.step S_W8)
  have z_W8 := S_W8.size
  refine (hB2.out _ HR.out _ HS.out).mono ?_
  rintro e w9 ⟨rfl, hbw9⟩
  clear HS
  have S_w9 : Below W8.heap.size W8 w9 := hbw9
  have HR := Lib.hid (HR.out.step S_w9)
  have HB := Lib.hid (HB.out.trans (S_w9.mono HB.out.size))
  have HP := Lib.hid (HP.out.step S_w9)
  have z_w9 := S_w9.size
  have p0 := HP.out.1 0 _ rfl
  have p1 := HP.out.1 1 _ rfl
  have p2 := HP.out.1 2 _ rfl
  have p3 := HP.out.1 3 _ rfl
  have p4 := HP.out.1 4 _ rfl
  have p5 := HP.out.1 5 _ rfl
  have p6 := HP.out.1 6 _ rfl
  have pz := HP.out.2.2
  go_wp2_with fail
  clear p0 p1 p2 p3 p4 p5 p6 pz
  obtain ⟨W10, hW_W10⟩ : ∃ X, X = w9.alloc (.cells #[.int .i64 1, .int .i64 0, .int .i64 3, .int .i64 0, .int .i64 4] 47) := ⟨_, rfl⟩
  have hb_W10 : Below w9.heap.size w9 W10 := by rw [hW_W10]; exact (Below.refl _ _).alloc (Nat.le_refl _) _
  have hf_W10 := SlR.lit (en := At.enc) (sz := 5) (fun _ => rfl) w9 lP #[.int .i64 1, .int .i64 0, .int .i64 3, .int .i64 0, .int .i64 4] 47 rfl (by decide) 1 rfl
  rw [← hW_W10] at hf_W10
  have HL := Lib.hid hf_W10
  clear hf_W10
  have HZ_W10 : Hid (W10.heap.size = w9.heap.size + 1) := Lib.hid (by rw [hW_W10]; simp)
  rw [← hW_W10]
  clear hW_W10
  have S_W10 : Below w9.heap.size w9 W10 := hb_W10
  have HR := Lib.hid (HR.out.step S_W10)
  have HB := Lib.hid (HB.out.trans (S_W10.mono HB.out.size))
  have HP := Lib.hid (HP.out.step S_W10)
  have z_W10 := S_W10.size
  refine (hZ.out _ trivial).mono ?_
  rintro e w11 ⟨rfl, hbz⟩
  have S_w11 : Below W10.heap.size W10 w11 := hbz
  have HR := Lib.hid (HR.out.step S_w11)
  have HB := Lib.hid (HB.out.trans (S_w11.mono HB.out.size))
  have HP := Lib.hid (HP.out.step S_w11)
  have HL := Lib.hid (HL.out.step S_w11)
  have z_w11 := S_w11.size
  have p0 := HP.out.1 0 _ rfl
  have p1 := HP.out.1 1 _ rfl
  have p2 := HP.out.1 2 _ rfl
  have p3 := HP.out.1 3 _ rfl
  have p4 := HP.out.1 4 _ rfl
  have p5 := HP.out.1 5 _ rfl
  have p6 := HP.out.1 6 _ rfl
  have pz := HP.out.2.2
  go_upto_region 13 with fail
  clear p0 p1 p2 p3 p4 p5 p6 pz
  obtain ⟨WU, hW_WU⟩ : ∃ X, X = w11.alloc (.cells #[.int .i64 0, .int .i64 0, .int .i64 4] 51) := ⟨_, rfl⟩
  have hb_WU : Below w11.heap.size w11 WU := by rw [hW_WU]; exact (Below.refl _ _).alloc (Nat.le_refl _) _
  have hf_WU := SlR.lit (en := Us.enc) (sz := 3) Us.enc_len w11 [⟨0, 0, 4⟩] #[.int .i64 0, .int .i64 0, .int .i64 4] 51 rfl (by decide) 1 rfl
  rw [← hW_WU] at hf_WU
  have HU := Lib.hid hf_WU
  clear hf_WU
  have HZ_WU : Hid (WU.heap.size = w11.heap.size + 1) := Lib.hid (by rw [hW_WU]; simp)
  rw [← hW_WU]
  clear hW_WU
  have S_WU : Below w11.heap.size w11 WU := hb_WU
  have HR := Lib.hid (HR.out.step S_WU)
  have HB := Lib.hid (HB.out.trans (S_WU.mono HB.out.size))
  have HP := Lib.hid (HP.out.step S_WU)
  have HL := Lib.hid (HL.out.step S_WU)
  have z_WU := S_WU.size
  obtain ⟨WS, hW_WS⟩ : ∃ X, X = WU.alloc (.cells #[.bool true, .bool false, .bool false, .bool false] 4) := ⟨_, rfl⟩
  have hb_WS : Below WU.heap.size WU WS := by rw [hW_WS]; exact (Below.refl _ _).alloc (Nat.le_refl _) _
  have hf_WS := SlR.lit (en := boolE) (sz := 1) (fun _ => rfl) WU [true, false, false, false] #[.bool true, .bool false, .bool false, .bool false] 4 rfl (by decide) 4 rfl
  rw [← hW_WS] at hf_WS
  have HS := Lib.hid hf_WS
  clear hf_WS
  have HZ_WS : Hid (WS.heap.size = WU.heap.size + 1) := Lib.hid (by rw [hW_WS]; simp)
  rw [← hW_WS]
  clear hW_WS
  have S_WS : Below WU.heap.size WU WS := hb_WS
  have HR := Lib.hid (HR.out.step S_WS)
  have HB := Lib.hid (HB.out.trans (S_WS.mono HB.out.size))
  have HP := Lib.hid (HP.out.step S_WS)
  have HL := Lib.hid (HL.out.step S_WS)
  have HU := Lib.hid (HU.out.step S_WS)
  have z_WS := S_WS.size
  have HS := Lib.hid (show SlR WS everyT 1 boolE ⟨some ⟨w11.heap.size + 1, 0, none⟩, 4, 4⟩ [true, false, false, false] from by have h := HS.out; rw [HZ_WU.out] at h; exact h)
  obtain ⟨WG, hW_WG⟩ : ∃ X, X = WS.alloc (.cells #[.slice (some ⟨w11.heap.size, 0, none⟩) 1 1, .int .i64 2, .slice (some ⟨w11.heap.size + 1, 0, none⟩) 4 4] 39) := ⟨_, rfl⟩
  have hb_WG : Below WS.heap.size WS WG := by rw [hW_WG]; exact (Below.refl _ _).alloc (Nat.le_refl _) _
  have hf_WG := Bx.new WS (#[.slice (some ⟨w11.heap.size, 0, none⟩) 1 1, .int .i64 2, .slice (some ⟨w11.heap.size + 1, 0, none⟩) 4 4]).toList 39
  rw [← hW_WG] at hf_WG
  have HG := Lib.hid hf_WG
  clear hf_WG
  have HZ_WG : Hid (WG.heap.size = WS.heap.size + 1) := Lib.hid (by rw [hW_WG]; simp)
  rw [← hW_WG]
  clear hW_WG
  have S_WG : Below WS.heap.size WS WG := hb_WG
  have HR := Lib.hid (HR.out.step S_WG)
  have HB := Lib.hid (HB.out.trans (S_WG.mono HB.out.size))
  have HP := Lib.hid (HP.out.step S_WG)
  have HL := Lib.hid (HL.out.step S_WG)
  have HU := Lib.hid (HU.out.step S_WG)
  have HS := Lib.hid (HS.out.step S_WG)
  have z_WG := S_WG.size
  obtain ⟨WH, hW_WH⟩ : ∃ X, X = WG.alloc (.cells #[.slice (some ⟨w11.heap.size, 0, none⟩) 1 1, .int .i64 3, .slice (some ⟨w11.heap.size + 1, 0, none⟩) 4 4] 39) := ⟨_, rfl⟩
  have hb_WH : Below WG.heap.size WG WH := by rw [hW_WH]; exact (Below.refl _ _).alloc (Nat.le_refl _) _
  have hf_WH := Bx.new WG (#[.slice (some ⟨w11.heap.size, 0, none⟩) 1 1, .int .i64 3, .slice (some ⟨w11.heap.size + 1, 0, none⟩) 4 4]).toList 39
  rw [← hW_WH] at hf_WH
  have HH := Lib.hid hf_WH
  clear hf_WH
  have HZ_WH : Hid (WH.heap.size = WG.heap.size + 1) := Lib.hid (by rw [hW_WH]; simp)
  rw [← hW_WH]
  clear hW_WH
  have S_WH : Below WG.heap.size WG WH := hb_WH
  have HR := Lib.hid (HR.out.step S_WH)
  have HB := Lib.hid (HB.out.trans (S_WH.mono HB.out.size))
  have HP := Lib.hid (HP.out.step S_WH)
  have HL := Lib.hid (HL.out.step S_WH)
  have HU := Lib.hid (HU.out.step S_WH)
  have HS := Lib.hid (HS.out.step S_WH)
  have HG := Lib.hid (HG.out.step S_WH)
  have z_WH := S_WH.size
  have HG := Lib.hid (show Bx WH (w11.heap.size + 1 + 1) _ from by have h := HG.out; rw [HZ_WS.out, HZ_WU.out] at h; exact h)
  have HH := Lib.hid (show Bx WH (w11.heap.size + 1 + 1 + 1) _ from by have h := HH.out; rw [HZ_WG.out, HZ_WS.out, HZ_WU.out] at h; exact h)
  simp only at HG HH
  have p0 := HP.out.1 0 _ rfl
  have p1 := HP.out.1 1 _ rfl
  have p2 := HP.out.1 2 _ rfl
  have p3 := HP.out.1 3 _ rfl
  have p4 := HP.out.1 4 _ rfl
  have p5 := HP.out.1 5 _ rfl
  have p6 := HP.out.1 6 _ rfl
  have pz := HP.out.2.2
  have x0 := HG.out.1 0 _ rfl
  have x1 := HG.out.1 1 _ rfl
  have x2 := HG.out.1 2 _ rfl
  have xz := HG.out.2.2
  have y0 := HH.out.1 0 _ rfl
  have y1 := HH.out.1 1 _ rfl
  have y2 := HH.out.1 2 _ rfl
  have yz := HH.out.2.2
  go_wp2_with fail
  clear p0 p1 p2 p3 p4 p5 p6 pz
  clear x0 x1 x2 xz
  clear y0 y1 y2 yz
  obtain ⟨W20, hW_W20⟩ : ∃ X, X = WH.alloc (.cells #[.bool true, .bool false, .bool false] 4) := ⟨_, rfl⟩
  have hb_W20 : Below WH.heap.size WH W20 := by rw [hW_W20]; exact (Below.refl _ _).alloc (Nat.le_refl _) _
  have hf_W20 := SlR.lit (en := boolE) (sz := 1) (fun _ => rfl) WH [true, false, false] #[.bool true, .bool false, .bool false] 4 rfl (by decide) 3 rfl
  rw [← hW_W20] at hf_W20
  have HS0 := Lib.hid hf_W20
  clear hf_W20
  have HZ_W20 : Hid (W20.heap.size = WH.heap.size + 1) := Lib.hid (by rw [hW_W20]; simp)
  rw [← hW_W20]
  clear hW_W20
  have S_W20 : Below WH.heap.size WH W20 := hb_W20
  have HR := Lib.hid (HR.out.step S_W20)
  have HB := Lib.hid (HB.out.trans (S_W20.mono HB.out.size))
  have HP := Lib.hid (HP.out.step S_W20)
  have HL := Lib.hid (HL.out.step S_W20)
  have HU := Lib.hid (HU.out.step S_W20)
  have HS := Lib.hid (HS.out.step S_W20)
  have HG := Lib.hid (HG.out.step S_W20)
  have HH := Lib.hid (HH.out.step S_W20)
  have z_W20 := S_W20.size
  refine (hC0.out _ HR.out _ HS0.out).mono ?_
  rintro e w21 ⟨rfl, hb21⟩
  clear HS0
  have S_w21 : Below W20.heap.size W20 w21 := hb21
  have HR := Lib.hid (HR.out.step S_w21)
  have HB := Lib.hid (HB.out.trans (S_w21.mono HB.out.size))
  have HP := Lib.hid (HP.out.step S_w21)
  have HL := Lib.hid (HL.out.step S_w21)
  have HU := Lib.hid (HU.out.step S_w21)
  have HS := Lib.hid (HS.out.step S_w21)
  have HG := Lib.hid (HG.out.step S_w21)
  have HH := Lib.hid (HH.out.step S_w21)
  have z_w21 := S_w21.size
  have p0 := HP.out.1 0 _ rfl
  have p1 := HP.out.1 1 _ rfl
  have p2 := HP.out.1 2 _ rfl
  have p3 := HP.out.1 3 _ rfl
  have p4 := HP.out.1 4 _ rfl
  have p5 := HP.out.1 5 _ rfl
  have p6 := HP.out.1 6 _ rfl
  have pz := HP.out.2.2
  have x0 := HG.out.1 0 _ rfl
  have x1 := HG.out.1 1 _ rfl
  have x2 := HG.out.1 2 _ rfl
  have xz := HG.out.2.2
  have y0 := HH.out.1 0 _ rfl
  have y1 := HH.out.1 1 _ rfl
  have y2 := HH.out.1 2 _ rfl
  have yz := HH.out.2.2
  go_wp2_with fail
  clear p0 p1 p2 p3 p4 p5 p6 pz
  clear x0 x1 x2 xz
  clear y0 y1 y2 yz
  refine (hC1.out _ HR.out _ HL.out _ HU.out _ HS.out).mono ?_
  rintro e w22 ⟨rfl, hbw22⟩
  have S_w22 : Below w21.heap.size w21 w22 := hbw22
  have HR := Lib.hid (HR.out.step S_w22)
  have HB := Lib.hid (HB.out.trans (S_w22.mono HB.out.size))
  have HP := Lib.hid (HP.out.step S_w22)
  have HL := Lib.hid (HL.out.step S_w22)
  have HU := Lib.hid (HU.out.step S_w22)
  have HS := Lib.hid (HS.out.step S_w22)
  have HG := Lib.hid (HG.out.step S_w22)
  have HH := Lib.hid (HH.out.step S_w22)
  have z_w22 := S_w22.size
  have p0 := HP.out.1 0 _ rfl
  have p1 := HP.out.1 1 _ rfl
  have p2 := HP.out.1 2 _ rfl
  have p3 := HP.out.1 3 _ rfl
  have p4 := HP.out.1 4 _ rfl
  have p5 := HP.out.1 5 _ rfl
  have p6 := HP.out.1 6 _ rfl
  have pz := HP.out.2.2
  have x0 := HG.out.1 0 _ rfl
  have x1 := HG.out.1 1 _ rfl
  have x2 := HG.out.1 2 _ rfl
  have xz := HG.out.2.2
  have y0 := HH.out.1 0 _ rfl
  have y1 := HH.out.1 1 _ rfl
  have y2 := HH.out.1 2 _ rfl
  have yz := HH.out.2.2
  go_wp2_with fail
  clear p0 p1 p2 p3 p4 p5 p6 pz
  clear x0 x1 x2 xz
  clear y0 y1 y2 yz
  refine (hC2.out _ HR.out _ HL.out _ HU.out _ HS.out).mono ?_
  rintro e w23 ⟨rfl, hbw23⟩
  have S_w23 : Below w22.heap.size w22 w23 := hbw23
  have HR := Lib.hid (HR.out.step S_w23)
  have HB := Lib.hid (HB.out.trans (S_w23.mono HB.out.size))
  have HP := Lib.hid (HP.out.step S_w23)
  have HL := Lib.hid (HL.out.step S_w23)
  have HU := Lib.hid (HU.out.step S_w23)
  have HS := Lib.hid (HS.out.step S_w23)
  have HG := Lib.hid (HG.out.step S_w23)
  have HH := Lib.hid (HH.out.step S_w23)
  have z_w23 := S_w23.size
  have p0 := HP.out.1 0 _ rfl
  have p1 := HP.out.1 1 _ rfl
  have p2 := HP.out.1 2 _ rfl
  have p3 := HP.out.1 3 _ rfl
  have p4 := HP.out.1 4 _ rfl
  have p5 := HP.out.1 5 _ rfl
  have p6 := HP.out.1 6 _ rfl
  have pz := HP.out.2.2
  have x0 := HG.out.1 0 _ rfl
  have x1 := HG.out.1 1 _ rfl
  have x2 := HG.out.1 2 _ rfl
  have xz := HG.out.2.2
  go_wp2_with fail
  clear p0 p1 p2 p3 p4 p5 p6 pz
  clear x0 x1 x2 xz
  refine (hA1.out _ HR.out _ HL.out _ HU.out).mono ?_
  rintro e w24 ⟨rfl, hb24⟩
  have S_w24 : Below w23.heap.size w23 w24 := hb24
  have HR := Lib.hid (HR.out.step S_w24)
  have HB := Lib.hid (HB.out.trans (S_w24.mono HB.out.size))
  have HP := Lib.hid (HP.out.step S_w24)
  have HL := Lib.hid (HL.out.step S_w24)
  have HU := Lib.hid (HU.out.step S_w24)
  have HS := Lib.hid (HS.out.step S_w24)
  have HG := Lib.hid (HG.out.step S_w24)
  have HH := Lib.hid (HH.out.step S_w24)
  have z_w24 := S_w24.size
  have p0 := HP.out.1 0 _ rfl
  have p1 := HP.out.1 1 _ rfl
  have p2 := HP.out.1 2 _ rfl
  have p3 := HP.out.1 3 _ rfl
  have p4 := HP.out.1 4 _ rfl
  have p5 := HP.out.1 5 _ rfl
  have p6 := HP.out.1 6 _ rfl
  have pz := HP.out.2.2
  go_wp2_with fail
  clear p0 p1 p2 p3 p4 p5 p6 pz
  obtain ⟨W25, hW_W25⟩ : ∃ X, X = w24.alloc (.cells #[.int .i64 0, .int .i64 0, .int .i64 5] 51) := ⟨_, rfl⟩
  have hb_W25 : Below w24.heap.size w24 W25 := by rw [hW_W25]; exact (Below.refl _ _).alloc (Nat.le_refl _) _
  have hf_W25 := SlR.lit (en := Us.enc) (sz := 3) Us.enc_len w24 [⟨0, 0, 5⟩] #[.int .i64 0, .int .i64 0, .int .i64 5] 51 rfl (by decide) 1 rfl
  rw [← hW_W25] at hf_W25
  have HU5 := Lib.hid hf_W25
  clear hf_W25
  have HZ_W25 : Hid (W25.heap.size = w24.heap.size + 1) := Lib.hid (by rw [hW_W25]; simp)
  rw [← hW_W25]
  clear hW_W25
  have S_W25 : Below w24.heap.size w24 W25 := hb_W25
  have HR := Lib.hid (HR.out.step S_W25)
  have HB := Lib.hid (HB.out.trans (S_W25.mono HB.out.size))
  have HP := Lib.hid (HP.out.step S_W25)
  have HL := Lib.hid (HL.out.step S_W25)
  have HU := Lib.hid (HU.out.step S_W25)
  have HS := Lib.hid (HS.out.step S_W25)
  have HG := Lib.hid (HG.out.step S_W25)
  have HH := Lib.hid (HH.out.step S_W25)
  have z_W25 := S_W25.size
  refine (hA2.out _ HR.out _ HL.out _ HU5.out).mono ?_
  rintro e w26 ⟨rfl, hb26⟩
  have S_w26 : Below W25.heap.size W25 w26 := hb26
  have HR := Lib.hid (HR.out.step S_w26)
  have HB := Lib.hid (HB.out.trans (S_w26.mono HB.out.size))
  have HP := Lib.hid (HP.out.step S_w26)
  have HL := Lib.hid (HL.out.step S_w26)
  have HU := Lib.hid (HU.out.step S_w26)
  have HS := Lib.hid (HS.out.step S_w26)
  have HG := Lib.hid (HG.out.step S_w26)
  have HH := Lib.hid (HH.out.step S_w26)
  have HU5 := Lib.hid (HU5.out.step S_w26)
  have z_w26 := S_w26.size
  go_wp2_with fail
  go_ret
  exact ⟨rfl, HB.out⟩
end Go.Proofs.Ytgimpbcdgfkdmaa
