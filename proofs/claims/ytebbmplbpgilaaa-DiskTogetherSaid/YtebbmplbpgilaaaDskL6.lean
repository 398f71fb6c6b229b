/- DiskTogether, walked. -/
import Derived.Test.YtebbmplbpgilaaaDskQ
import Derived.Test.YtebbmplbpgilaaaDskU
import Derived.Test.YtebbmplbpgilaaaDskV
import Derived.BigQuiet
import Derived.Deep.DeepCutAuto
import Derived.Deep.RegionHeld3
namespace Go.Proofs.Ytebbmplbpgilaaa
open Go.RowKit Go.Shelf
set_option linter.unusedSimpArgs false
set_option linter.unusedVariables false

/-- the writes of a script -/
def wsA (n : Nat) (acts : List Ac) : List (Int × List Int) := acts.map fun a => (a.at_ % (n : Int), padS [a.byte])
theorem wsA_len (n : Nat) (acts : List Ac) : (wsA n acts).length = acts.length := by simp [wsA]
theorem wsA_drop {n : Nat} {acts : List Ac} {k : Nat} {a : Ac} (h : acts[k]? = some a) : (wsA n acts).drop k = (a.at_ % (n : Int), padS [a.byte]) :: (wsA n acts).drop (k + 1) := by
  have hl := (List.getElem?_eq_some_iff.1 h).1
  rw [List.drop_eq_getElem_cons (by rw [wsA_len]; exact hl)]
  simp [wsA, (List.getElem?_eq_some_iff.1 h).2]
theorem wsA_take {n : Nat} {acts : List Ac} {k : Nat} {a : Ac} (h : acts[k]? = some a) : (wsA n acts).take (k + 1) = (wsA n acts).take k ++ [(a.at_ % (n : Int), padS [a.byte])] := by
  have hl := (List.getElem?_eq_some_iff.1 h).1
  rw [List.take_succ_eq_append_getElem (by rw [wsA_len]; exact hl)]
  simp [wsA, (List.getElem?_eq_some_iff.1 h).2]
/-- how far the one by one has come -/
def Tog (n : Nat) (ws : List (Int × List Int)) (k : Nat) (x : Dk) (E : Int) (FIN : Dk × Int) : Prop :=
  (E = 0 ∧ x.pend = [] ∧ x.stopped = false ∧ x.secs.length = n ∧ GoodP x.secs (ws.drop k) x.left ∧ oneD x 0 (ws.drop k) = FIN) ∨ (E ≠ 0 ∧ (x, E) = FIN)
theorem good_write {ss : List (List Int)} {w : Int × List Int} {l : List (Int × List Int)} {left : Int} {b : Int} (h : GoodP ss (w :: l) left) (hw : w.2 = padS [b]) :
    writeD ⟨ss, [], left, false⟩ w.1 [b] = (⟨ss, [w], left, false⟩, 0) := by
  have hr := (show GoodP ss [] left from ⟨by simp, h.2.1, h.2.2.1, h.2.2.2.1, by simp, h.2.2.2.2.2⟩).runs
  obtain ⟨h1, _⟩ := h
  obtain ⟨a, b', c⟩ := h1 w (List.mem_cons_self ..)
  unfold writeD
  rw [hr, show hasD ⟨ss, [], left, false⟩ w.1 = true by simp [hasD]; omega]
  simp only [Bool.true_and, if_true, List.length_cons, List.length_nil]
  rw [if_pos (by omega), if_neg (by omega)]
  simp [← hw]
theorem GoodP.take {ss : List (List Int)} {l : List (Int × List Int)} {left : Int} (h : GoodP ss l left) (k : Nat) : GoodP ss (l.take k) left :=
  ⟨fun p hp => h.1 p (List.mem_of_mem_take hp), h.2.1, h.2.2.1, h.2.2.2.1, Nat.le_trans (List.length_take_le' _ _) h.2.2.2.2.1, h.2.2.2.2.2⟩
theorem good_write2 {ss : List (List Int)} {w : Int × List Int} {ws : List (Int × List Int)} {left : Int} {b : Int} {k : Nat} (h : GoodP ss ws left) (hk : ws.take (k + 1) = ws.take k ++ [w]) (hw : w.2 = padS [b]) (hl : ws.length ≤ 20) :
    writeD ⟨ss, ws.take k, left, false⟩ w.1 [b] = (⟨ss, ws.take (k + 1), left, false⟩, 0) := by
  have hr := (h.take k).runs
  have hm : w ∈ ws := List.mem_of_mem_take (i := k + 1) (by rw [hk]; simp)
  obtain ⟨a, b', c⟩ := h.1 w hm
  have hlk : (ws.take k).length ≤ 20 := by rw [List.length_take]; omega
  unfold writeD
  rw [hr, show hasD ⟨ss, ws.take k, left, false⟩ w.1 = true by simp [hasD]; omega]
  simp only [Bool.true_and, if_true, List.length_cons, List.length_nil]
  rw [if_pos (by omega), if_neg (by omega), hk]
  simp [← hw]
theorem tog_step {n : Nat} {ws : List (Int × List Int)} {k : Nat} {x : Dk} {FIN : Dk × Int} {w : Int × List Int} (h : Tog n ws k x 0 FIN) (hd : ws.drop k = w :: ws.drop (k + 1)) :
    Tog n ws (k + 1) (syncD ⟨x.secs, [w], x.left, false⟩).1 (syncD ⟨x.secs, [w], x.left, false⟩).2 FIN := by
  rcases h with ⟨_, h1, h2, h3, h4, h5⟩ | ⟨h, _⟩
  · rw [hd] at h4 h5
    obtain ⟨ss, pend, left, st⟩ := x
    simp only at h1 h2 h3 h4 h5 ⊢
    subst h1 h2
    unfold oneD at h5
    rw [if_pos rfl] at h5
    simp only [List.nil_append] at h5
    by_cases h0 : left = 0
    · subst h0
      obtain ⟨a, b⟩ := sync_first h4
      right
      rw [oneD_end (by rw [b]; decide)] at h5
      exact ⟨by rw [b]; decide, by rw [← h5]⟩
    · obtain ⟨a, b⟩ := sync_next h4 h0
      left
      rw [b] at h5 ⊢
      exact ⟨rfl, rfl, rfl, by simp only; rw [perform_len]; exact h3, h4.rest h0, h5⟩
  · exact absurd rfl h
theorem tog_done {n : Nat} {ws : List (Int × List Int)} {k : Nat} {x : Dk} {E : Int} {FIN : Dk × Int} (h : Tog n ws k x E FIN) (hk : ws.length ≤ k ∨ E ≠ 0) : (x, E) = FIN := by
  rcases h with ⟨rfl, h1, h2, h3, h4, h5⟩ | ⟨_, h⟩
  · rcases hk with hk | hk
    · rw [List.drop_eq_nil_of_le hk] at h5
      exact h5
    · exact absurd rfl hk
  · exact h
theorem valid_good {d : Dk} (h : validD d = true) (hp : d.pend = []) {acts : List Ac} (hl : acts.length ≤ 20) (ha : ∀ a ∈ acts, a.ok) : GoodP d.secs (wsA d.secs.length acts) d.left ∧ 1 ≤ d.secs.length := by
  simp only [validD, sizesOk, Bool.and_eq_true, decide_eq_true_eq, Bool.not_eq_true', List.any_eq_false] at h
  obtain ⟨⟨h1, h2, h3, h4, h5⟩, _, h7⟩ := h
  refine ⟨⟨fun p hp => ?_, fun b hb => by have := h7 b hb; simpa [isSec] using this, h1, h2, by rw [wsA_len]; omega, h4, h5⟩, h1⟩
  obtain ⟨a, ha1, rfl⟩ := List.mem_map.1 hp
  exact ⟨Int.emod_nonneg _ (by omega), Int.emod_lt_of_pos _ (by omega), pad_len (by simp)⟩

set_option maxRecDepth 100000 in
set_option maxHeartbeats 8000000 in
theorem Together_walk (sv pv : Sl) (d : Dk) (acts : List Ac) (A : Option Addr) (c : Nat) (w : World) (hd : Di w everyB sv pv d) (hx : Reads w w.heap.size A 3 Ac.enc acts) (hok : ∀ a ∈ acts, a.ok) (hln : acts.length ≤ 9223372036854775807) :
    Calls Try.prog 8 #[dkV sv pv d, .slice A acts.length c] w fun e w' => e = .returned (.bool true) ∧ Below w.heap.size w w' := by
  have hsn := hd.1.len
  have hpn := hd.2.len
  obtain ⟨sa, sn, sc⟩ := sv
  obtain ⟨pa, pn, pc⟩ := pv
  simp only at hsn hpn
  subst hsn hpn
  have HX := Lib.hid hx
  have HOK := Lib.hid hok
  have HD0 := Lib.hid hd
  clear hx hok
  obtain ⟨ss, pend, left, st⟩ := d
  simp only [dkV]
  obtain ⟨CK, hCK⟩ : ∃ x, x = checkD ⟨ss, pend, left, st⟩ := ⟨_, rfl⟩
  have hC := Lib.hid (fun W (h : Below w.heap.size w W) => Check_any (P := everyB) ⟨ss, pend, left, st⟩ ⟨sa, ss.length, sc⟩ ⟨pa, pend.length, pc⟩ W (hd.step h))
  simp only [dkV] at hC
  rw [← hCK] at hC
  have HCK := Lib.hid hCK
  clear hCK
  by_cases c1 : acts.length ≤ 20
  rotate_left
  · have e1 : decide ((20 : Int) < (acts.length : Int)) = true := by simp; omega
    go_enter Try.func8, Try.ntmps8
    go_wp2_with fail
    obtain ⟨W0, hW0⟩ : ∃ W, W = w.alloc (.cells #[.slice sa ss.length sc, .slice pa pend.length pc, .int .i64 left, .bool st] 25) := ⟨_, rfl⟩
    rw [← hW0]
    have b0 : Below w.heap.size w W0 := by rw [hW0]; exact (Below.refl _ _).alloc (Nat.le_refl _) _
    have x0 : Box4 W0 w.heap.size (.slice sa ss.length sc) (.slice pa pend.length pc) (.int .i64 left) (.bool st) := by rw [hW0]; exact Box4.new ..
    have HX0 := Lib.hid (x0)
    have ba := Lib.hid b0
    have HD := Lib.hid (hd.step b0)
    clear hW0 b0 x0 hd
    refine (sane_any _).mono ?_
    rintro e w1 ⟨rfl, hb_w1⟩
    have S_w1 : Below W0.heap.size W0 w1 := (Below.refl _ W0).trans (hb_w1.mono (by (try simp) <;> omega))
    have HX0 := Lib.hid (HX0.out.step S_w1)
    have ba := Lib.hid (ba.out.trans (S_w1.mono ba.out.size))
    have HD := Lib.hid (HD.out.step S_w1)
    have z_w1 := S_w1.size
    obtain ⟨HX0_0, HX0_1, HX0_2, HX0_3, HX0_f0, HX0_f1, HX0_f2, HX0_f3, HX0_z⟩ := HX0.out
    go_wp2_with fail
    refine (Few_any (P := everyB) ⟨ss, pend, left, st⟩ ⟨sa, ss.length, sc⟩ ⟨pa, pend.length, pc⟩ _ HD.out).mono ?_
    rintro e w2 ⟨⟨bf, rfl⟩, hb_w2⟩
    have S_w2 : Below w1.heap.size w1 w2 := (Below.refl _ w1).trans (hb_w2.mono (by (try simp) <;> omega))
    have HX0 := Lib.hid (HX0.out.step S_w2)
    have ba := Lib.hid (ba.out.trans (S_w2.mono ba.out.size))
    have HD := Lib.hid (HD.out.step S_w2)
    have z_w2 := S_w2.size
    cases bf
    · go_wp2_with fail
      go_ret
      exact ⟨rfl, ba.out⟩
    clear HX0_0 HX0_1 HX0_2 HX0_3 HX0_f0 HX0_f1 HX0_f2 HX0_f3 HX0_z
    obtain ⟨HX0_0, HX0_1, HX0_2, HX0_3, HX0_f0, HX0_f1, HX0_f2, HX0_f3, HX0_z⟩ := HX0.out
    go_wp2_with fail
    go_ret
    exact ⟨rfl, ba.out⟩
  have e1 : decide ((20 : Int) < (acts.length : Int)) = false := by simp; omega
  by_cases c2 : pend.length = 0
  rotate_left
  · have e2 : decide (0 < pend.length) = true := by simp; omega
    go_enter Try.func8, Try.ntmps8
    go_wp2_with fail
    obtain ⟨W0, hW0⟩ : ∃ W, W = w.alloc (.cells #[.slice sa ss.length sc, .slice pa pend.length pc, .int .i64 left, .bool st] 25) := ⟨_, rfl⟩
    rw [← hW0]
    have b0 : Below w.heap.size w W0 := by rw [hW0]; exact (Below.refl _ _).alloc (Nat.le_refl _) _
    have x0 : Box4 W0 w.heap.size (.slice sa ss.length sc) (.slice pa pend.length pc) (.int .i64 left) (.bool st) := by rw [hW0]; exact Box4.new ..
    have HX0 := Lib.hid (x0)
    have ba := Lib.hid b0
    have HD := Lib.hid (hd.step b0)
    clear hW0 b0 x0 hd
    refine (sane_any _).mono ?_
    rintro e w1 ⟨rfl, hb_w1⟩
    have S_w1 : Below W0.heap.size W0 w1 := (Below.refl _ W0).trans (hb_w1.mono (by (try simp) <;> omega))
    have HX0 := Lib.hid (HX0.out.step S_w1)
    have ba := Lib.hid (ba.out.trans (S_w1.mono ba.out.size))
    have HD := Lib.hid (HD.out.step S_w1)
    have z_w1 := S_w1.size
    obtain ⟨HX0_0, HX0_1, HX0_2, HX0_3, HX0_f0, HX0_f1, HX0_f2, HX0_f3, HX0_z⟩ := HX0.out
    go_wp2_with fail
    refine (Few_any (P := everyB) ⟨ss, pend, left, st⟩ ⟨sa, ss.length, sc⟩ ⟨pa, pend.length, pc⟩ _ HD.out).mono ?_
    rintro e w2 ⟨⟨bf, rfl⟩, hb_w2⟩
    have S_w2 : Below w1.heap.size w1 w2 := (Below.refl _ w1).trans (hb_w2.mono (by (try simp) <;> omega))
    have HX0 := Lib.hid (HX0.out.step S_w2)
    have ba := Lib.hid (ba.out.trans (S_w2.mono ba.out.size))
    have HD := Lib.hid (HD.out.step S_w2)
    have z_w2 := S_w2.size
    cases bf
    · go_wp2_with fail
      go_ret
      exact ⟨rfl, ba.out⟩
    clear HX0_0 HX0_1 HX0_2 HX0_3 HX0_f0 HX0_f1 HX0_f2 HX0_f3 HX0_z
    obtain ⟨HX0_0, HX0_1, HX0_2, HX0_3, HX0_f0, HX0_f1, HX0_f2, HX0_f3, HX0_z⟩ := HX0.out
    go_wp2_with fail
    go_ret
    exact ⟨rfl, ba.out⟩
  obtain rfl : pend = [] := List.eq_nil_of_length_eq_zero c2
  clear c2
  simp only [List.length_nil] at HD0 hC ⊢
  by_cases c3 : ss.length = 0
  · have e3 : (ss.length == 0) = true := by simp [c3]
    have e3b : ((ss.length : Int) == 0) = true := by simp [c3]
    clear c3
    go_enter Try.func8, Try.ntmps8
    go_wp2_with fail
    obtain ⟨W0, hW0⟩ : ∃ W, W = w.alloc (.cells #[.slice sa ss.length sc, .slice pa 0 pc, .int .i64 left, .bool st] 25) := ⟨_, rfl⟩
    rw [← hW0]
    have b0 : Below w.heap.size w W0 := by rw [hW0]; exact (Below.refl _ _).alloc (Nat.le_refl _) _
    have x0 : Box4 W0 w.heap.size (.slice sa ss.length sc) (.slice pa 0 pc) (.int .i64 left) (.bool st) := by rw [hW0]; exact Box4.new ..
    have HX0 := Lib.hid (x0)
    have ba := Lib.hid b0
    have HD := Lib.hid (hd.step b0)
    clear hW0 b0 x0 hd
    refine (sane_any _).mono ?_
    rintro e w1 ⟨rfl, hb_w1⟩
    have S_w1 : Below W0.heap.size W0 w1 := (Below.refl _ W0).trans (hb_w1.mono (by (try simp) <;> omega))
    have HX0 := Lib.hid (HX0.out.step S_w1)
    have ba := Lib.hid (ba.out.trans (S_w1.mono ba.out.size))
    have HD := Lib.hid (HD.out.step S_w1)
    have z_w1 := S_w1.size
    obtain ⟨HX0_0, HX0_1, HX0_2, HX0_3, HX0_f0, HX0_f1, HX0_f2, HX0_f3, HX0_z⟩ := HX0.out
    go_wp2_with fail
    refine (Few_any (P := everyB) ⟨ss, [], left, st⟩ ⟨sa, ss.length, sc⟩ ⟨pa, 0, pc⟩ _ HD.out).mono ?_
    rintro e w2 ⟨⟨bf, rfl⟩, hb_w2⟩
    have S_w2 : Below w1.heap.size w1 w2 := (Below.refl _ w1).trans (hb_w2.mono (by (try simp) <;> omega))
    have HX0 := Lib.hid (HX0.out.step S_w2)
    have ba := Lib.hid (ba.out.trans (S_w2.mono ba.out.size))
    have HD := Lib.hid (HD.out.step S_w2)
    have z_w2 := S_w2.size
    cases bf
    · go_wp2_with fail
      go_ret
      exact ⟨rfl, ba.out⟩
    clear HX0_0 HX0_1 HX0_2 HX0_3 HX0_f0 HX0_f1 HX0_f2 HX0_f3 HX0_z
    obtain ⟨HX0_0, HX0_1, HX0_2, HX0_3, HX0_f0, HX0_f1, HX0_f2, HX0_f3, HX0_z⟩ := HX0.out
    go_wp2_with fail
    go_ret
    exact ⟨rfl, ba.out⟩
  have e3 : (ss.length == 0) = false := by simpa using c3
  have e3b : ((ss.length : Int) == 0) = false := by rw [beq_eq_false_iff_ne]; omega
  by_cases c4 : CK = 0
  rotate_left
  · have e4 : (CK == 0) = false := by simpa using c4
    have e4b : (CK != 0) = true := by simpa using c4
    clear c4
    go_enter Try.func8, Try.ntmps8
    go_wp2_with fail
    obtain ⟨W0, hW0⟩ : ∃ W, W = w.alloc (.cells #[.slice sa ss.length sc, .slice pa 0 pc, .int .i64 left, .bool st] 25) := ⟨_, rfl⟩
    rw [← hW0]
    have b0 : Below w.heap.size w W0 := by rw [hW0]; exact (Below.refl _ _).alloc (Nat.le_refl _) _
    have x0 : Box4 W0 w.heap.size (.slice sa ss.length sc) (.slice pa 0 pc) (.int .i64 left) (.bool st) := by rw [hW0]; exact Box4.new ..
    have HX0 := Lib.hid (x0)
    have ba := Lib.hid b0
    have HD := Lib.hid (hd.step b0)
    clear hW0 b0 x0 hd
    refine (sane_any _).mono ?_
    rintro e w1 ⟨rfl, hb_w1⟩
    have S_w1 : Below W0.heap.size W0 w1 := (Below.refl _ W0).trans (hb_w1.mono (by (try simp) <;> omega))
    have HX0 := Lib.hid (HX0.out.step S_w1)
    have ba := Lib.hid (ba.out.trans (S_w1.mono ba.out.size))
    have HD := Lib.hid (HD.out.step S_w1)
    have z_w1 := S_w1.size
    obtain ⟨HX0_0, HX0_1, HX0_2, HX0_3, HX0_f0, HX0_f1, HX0_f2, HX0_f3, HX0_z⟩ := HX0.out
    go_wp2_with fail
    refine (Few_any (P := everyB) ⟨ss, [], left, st⟩ ⟨sa, ss.length, sc⟩ ⟨pa, 0, pc⟩ _ HD.out).mono ?_
    rintro e w2 ⟨⟨bf, rfl⟩, hb_w2⟩
    have S_w2 : Below w1.heap.size w1 w2 := (Below.refl _ w1).trans (hb_w2.mono (by (try simp) <;> omega))
    have HX0 := Lib.hid (HX0.out.step S_w2)
    have ba := Lib.hid (ba.out.trans (S_w2.mono ba.out.size))
    have HD := Lib.hid (HD.out.step S_w2)
    have z_w2 := S_w2.size
    cases bf
    · go_wp2_with fail
      go_ret
      exact ⟨rfl, ba.out⟩
    clear HX0_0 HX0_1 HX0_2 HX0_3 HX0_f0 HX0_f1 HX0_f2 HX0_f3 HX0_z
    obtain ⟨HX0_0, HX0_1, HX0_2, HX0_3, HX0_f0, HX0_f1, HX0_f2, HX0_f3, HX0_z⟩ := HX0.out
    go_wp2_with fail
    refine (hC.out _ ba.out).mono ?_
    rintro e w3 ⟨rfl, hb_w3⟩
    have S_w3 : Below w2.heap.size w2 w3 := (Below.refl _ w2).trans (hb_w3.mono (by (try simp) <;> omega))
    have HX0 := Lib.hid (HX0.out.step S_w3)
    have ba := Lib.hid (ba.out.trans (S_w3.mono ba.out.size))
    have HD := Lib.hid (HD.out.step S_w3)
    have z_w3 := S_w3.size
    clear HX0_0 HX0_1 HX0_2 HX0_3 HX0_f0 HX0_f1 HX0_f2 HX0_f3 HX0_z
    obtain ⟨HX0_0, HX0_1, HX0_2, HX0_3, HX0_f0, HX0_f1, HX0_f2, HX0_f3, HX0_z⟩ := HX0.out
    go_wp2_with fail
    go_ret
    exact ⟨rfl, ba.out⟩
  subst c4
  cases st
  rotate_left
  · go_enter Try.func8, Try.ntmps8
    go_wp2_with fail
    obtain ⟨W0, hW0⟩ : ∃ W, W = w.alloc (.cells #[.slice sa ss.length sc, .slice pa 0 pc, .int .i64 left, .bool true] 25) := ⟨_, rfl⟩
    rw [← hW0]
    have b0 : Below w.heap.size w W0 := by rw [hW0]; exact (Below.refl _ _).alloc (Nat.le_refl _) _
    have x0 : Box4 W0 w.heap.size (.slice sa ss.length sc) (.slice pa 0 pc) (.int .i64 left) (.bool true) := by rw [hW0]; exact Box4.new ..
    have HX0 := Lib.hid (x0)
    have ba := Lib.hid b0
    have HD := Lib.hid (hd.step b0)
    clear hW0 b0 x0 hd
    refine (sane_any _).mono ?_
    rintro e w1 ⟨rfl, hb_w1⟩
    have S_w1 : Below W0.heap.size W0 w1 := (Below.refl _ W0).trans (hb_w1.mono (by (try simp) <;> omega))
    have HX0 := Lib.hid (HX0.out.step S_w1)
    have ba := Lib.hid (ba.out.trans (S_w1.mono ba.out.size))
    have HD := Lib.hid (HD.out.step S_w1)
    have z_w1 := S_w1.size
    obtain ⟨HX0_0, HX0_1, HX0_2, HX0_3, HX0_f0, HX0_f1, HX0_f2, HX0_f3, HX0_z⟩ := HX0.out
    go_wp2_with fail
    refine (Few_any (P := everyB) ⟨ss, [], left, true⟩ ⟨sa, ss.length, sc⟩ ⟨pa, 0, pc⟩ _ HD.out).mono ?_
    rintro e w2 ⟨⟨bf, rfl⟩, hb_w2⟩
    have S_w2 : Below w1.heap.size w1 w2 := (Below.refl _ w1).trans (hb_w2.mono (by (try simp) <;> omega))
    have HX0 := Lib.hid (HX0.out.step S_w2)
    have ba := Lib.hid (ba.out.trans (S_w2.mono ba.out.size))
    have HD := Lib.hid (HD.out.step S_w2)
    have z_w2 := S_w2.size
    cases bf
    · go_wp2_with fail
      go_ret
      exact ⟨rfl, ba.out⟩
    clear HX0_0 HX0_1 HX0_2 HX0_3 HX0_f0 HX0_f1 HX0_f2 HX0_f3 HX0_z
    obtain ⟨HX0_0, HX0_1, HX0_2, HX0_3, HX0_f0, HX0_f1, HX0_f2, HX0_f3, HX0_z⟩ := HX0.out
    go_wp2_with fail
    refine (hC.out _ ba.out).mono ?_
    rintro e w3 ⟨rfl, hb_w3⟩
    have S_w3 : Below w2.heap.size w2 w3 := (Below.refl _ w2).trans (hb_w3.mono (by (try simp) <;> omega))
    have HX0 := Lib.hid (HX0.out.step S_w3)
    have ba := Lib.hid (ba.out.trans (S_w3.mono ba.out.size))
    have HD := Lib.hid (HD.out.step S_w3)
    have z_w3 := S_w3.size
    clear HX0_0 HX0_1 HX0_2 HX0_3 HX0_f0 HX0_f1 HX0_f2 HX0_f3 HX0_z
    obtain ⟨HX0_0, HX0_1, HX0_2, HX0_3, HX0_f0, HX0_f1, HX0_f2, HX0_f3, HX0_z⟩ := HX0.out
    go_wp2_with fail
    go_ret
    exact ⟨rfl, ba.out⟩
  have hval : validD ⟨ss, [], left, false⟩ = true := by have h := HCK.out; unfold checkD at h; split at h; assumption; simp at h
  go_enter Try.func8, Try.ntmps8
  go_wp2_with fail
  obtain ⟨W0, hW0⟩ : ∃ W, W = w.alloc (.cells #[.slice sa ss.length sc, .slice pa 0 pc, .int .i64 left, .bool false] 25) := ⟨_, rfl⟩
  rw [← hW0]
  have b0 : Below w.heap.size w W0 := by rw [hW0]; exact (Below.refl _ _).alloc (Nat.le_refl _) _
  have x0 : Box4 W0 w.heap.size (.slice sa ss.length sc) (.slice pa 0 pc) (.int .i64 left) (.bool false) := by rw [hW0]; exact Box4.new ..
  have HX0 := Lib.hid (x0)
  have ba := Lib.hid b0
  have HD := Lib.hid (hd.step b0)
  clear hW0 b0 x0 hd
  refine (sane_any _).mono ?_
  rintro e w1 ⟨rfl, hb_w1⟩
  have S_w1 : Below W0.heap.size W0 w1 := (Below.refl _ W0).trans (hb_w1.mono (by (try simp) <;> omega))
  have HX0 := Lib.hid (HX0.out.step S_w1)
  have ba := Lib.hid (ba.out.trans (S_w1.mono ba.out.size))
  have HD := Lib.hid (HD.out.step S_w1)
  have z_w1 := S_w1.size
  obtain ⟨HX0_0, HX0_1, HX0_2, HX0_3, HX0_f0, HX0_f1, HX0_f2, HX0_f3, HX0_z⟩ := HX0.out
  go_wp2_with fail
  refine (Few_any (P := everyB) ⟨ss, [], left, false⟩ ⟨sa, ss.length, sc⟩ ⟨pa, 0, pc⟩ _ HD.out).mono ?_
  rintro e w2 ⟨⟨bf, rfl⟩, hb_w2⟩
  have S_w2 : Below w1.heap.size w1 w2 := (Below.refl _ w1).trans (hb_w2.mono (by (try simp) <;> omega))
  have HX0 := Lib.hid (HX0.out.step S_w2)
  have ba := Lib.hid (ba.out.trans (S_w2.mono ba.out.size))
  have HD := Lib.hid (HD.out.step S_w2)
  have z_w2 := S_w2.size
  cases bf
  · go_wp2_with fail
    go_ret
    exact ⟨rfl, ba.out⟩
  clear HX0_0 HX0_1 HX0_2 HX0_3 HX0_f0 HX0_f1 HX0_f2 HX0_f3 HX0_z
  obtain ⟨HX0_0, HX0_1, HX0_2, HX0_3, HX0_f0, HX0_f1, HX0_f2, HX0_f3, HX0_z⟩ := HX0.out
  go_wp2_with fail
  refine (hC.out _ ba.out).mono ?_
  rintro e w3 ⟨rfl, hb_w3⟩
  have S_w3 : Below w2.heap.size w2 w3 := (Below.refl _ w2).trans (hb_w3.mono (by (try simp) <;> omega))
  have HX0 := Lib.hid (HX0.out.step S_w3)
  have ba := Lib.hid (ba.out.trans (S_w3.mono ba.out.size))
  have HD := Lib.hid (HD.out.step S_w3)
  have z_w3 := S_w3.size
  clear HX0_0 HX0_1 HX0_2 HX0_3 HX0_f0 HX0_f1 HX0_f2 HX0_f3 HX0_z
  obtain ⟨HX0_0, HX0_1, HX0_2, HX0_3, HX0_f0, HX0_f1, HX0_f2, HX0_f3, HX0_z⟩ := HX0.out
  go_wp2_with fail
  have HG := Lib.hid (valid_good hval rfl c1 HOK.out)
  have hn1 : 1 ≤ ss.length := HG.out.2
  obtain ⟨FIN, hFIN⟩ : ∃ x, x = oneD ⟨ss, [], left, false⟩ 0 (wsA ss.length acts) := ⟨_, rfl⟩
  have HFIN := Lib.hid hFIN
  have HALL : Hid (FIN = syncD ⟨ss, wsA ss.length acts, left, false⟩) := Lib.hid (by rw [hFIN]; exact one_all _ _ _ HG.out.1)
  clear hFIN hval c3 e3 e3b hb_w1 S_w1 z_w1 hb_w2 S_w2 z_w2 hb_w3 S_w3 z_w3
  go_cut [5, 6] (fun v5 v6 wx => ∃ bx bY : Nat, v5 = .pointer (some ⟨bx, 0, none⟩) ∧ v6 = .pointer (some ⟨bY, 0, none⟩) ∧ bx ≠ bY ∧ w3.heap.size ≤ bx ∧ w3.heap.size ≤ bY ∧ Box4 wx bx (.slice sa ss.length sc) (.slice pa 0 pc) (.int .i64 left) (.bool false) ∧ Box4 wx bY (.slice sa ss.length sc) (.slice pa 0 pc) (.int .i64 left) (.bool false) ∧ Below w3.heap.size w3 wx)
  case first =>
    have t1 := Box4.new w3 (.slice sa ss.length sc) (.slice pa 0 pc) (.int .i64 left) (.bool false) 25
    have t2 := Box4.at_ (w3.alloc (.cells #[.slice sa ss.length sc, .slice pa 0 pc, .int .i64 left, .bool false] 25)) (.slice sa ss.length sc) (.slice pa 0 pc) (.int .i64 left) (.bool false) 25 (w3.heap.size + 1) (by simp)
    have t3 := t1.step ((Below.refl _ _).alloc (Nat.le_refl _) (.cells #[.slice sa ss.length sc, .slice pa 0 pc, .int .i64 left, .bool false] 25))
    have t4 : Below w3.heap.size w3 ((w3.alloc (.cells #[.slice sa ss.length sc, .slice pa 0 pc, .int .i64 left, .bool false] 25)).alloc (.cells #[.slice sa ss.length sc, .slice pa 0 pc, .int .i64 left, .bool false] 25)) := ((Below.refl _ _).alloc (Nat.le_refl _) _).alloc (by simp) _
    have HT := Lib.hid (And.intro t3.drewn (And.intro t2.drewn t4.drew))
    clear t1 t2 t3 t4
    go_region
    · go_wp2_with fail
      go_meet
      obtain ⟨t1, t2, t3⟩ := HT.out
      exact ⟨_, _, rfl, rfl, by omega, Nat.le_refl _, Nat.le_succ _, t1, t2, t3⟩
    · go_wp2_with fail
      go_meet
      obtain ⟨t1, t2, t3⟩ := HT.out
      exact ⟨_, _, rfl, rfl, by omega, Nat.le_succ _, Nat.le_refl _, t2, t1, t3⟩
  case rest =>
    obtain ⟨w4, hwc⟩ : ∃ x, x = wc := ⟨_, rfl⟩
    subst hwc
    obtain ⟨bx, bY, rfl, rfl, hxy, hx3, hy3, hbx, hby, hb4⟩ := hcut
    have hd4 := (HD.out.mono2 (Q := fun b => b ≠ bx ∧ b ≠ bY) (fun b _ hl => ⟨by omega, by omega⟩)).step hb4
    have hdx := HX0_z
    have ba4 := Lib.hid (ba.out.trans (hb4.mono ba.out.size))
    have HX04 := Lib.hid (HX0.out.step hb4)
    have HBX := Lib.hid hbx
    have HBY := Lib.hid hby
    have HD4 := Lib.hid hd4
    have hxd : bx ≠ w.heap.size := by omega
    have hyd : bY ≠ w.heap.size := by omega
    have hwx : w.heap.size ≤ bx := by have := ba.out.size; omega
    have hwy : w.heap.size ≤ bY := by have := ba.out.size; omega
    clear HX0_0 HX0_1 HX0_2 HX0_3 HX0_f0 HX0_f1 HX0_f2 HX0_f3 HX0_z hbx hby hb4 hd4 HX0 HD ba hdx
    go_wp2_with fail
    go_loopw [7, 8] (fun v7 v8 wr => ∃ (k : Nat) (x : Dk) (E : Int) (sx px : Sl), k ≤ acts.length ∧ v8 = .int .i64 k ∧ v7 = .int .i64 E ∧ Tog ss.length (wsA ss.length acts) k x E FIN ∧ Box4 wr bx (.slice sx.a sx.n sx.c) (.slice px.a px.n px.c) (.int .i64 x.left) (.bool x.stopped) ∧ Di wr (fun b => b ≠ bx ∧ b ≠ bY) sx px x ∧
      Box4 wr bY (.slice sa ss.length sc) (.slice pa 0 pc) (.int .i64 left) (.bool false) ∧ Box4 wr w.heap.size (.slice sa ss.length sc) (.slice pa 0 pc) (.int .i64 left) (.bool false) ∧ Di wr (fun b => b ≠ bx ∧ b ≠ bY) ⟨sa, ss.length, sc⟩ ⟨pa, 0, pc⟩ ⟨ss, [], left, false⟩ ∧ Below w.heap.size w wr) (fun _ v8 _ => acts.length - (intOf v8).toNat)
    case atStart => exact ⟨0, ⟨ss, [], left, false⟩, 0, ⟨sa, ss.length, sc⟩, ⟨pa, 0, pc⟩, Nat.zero_le _, rfl, rfl, .inl ⟨rfl, rfl, rfl, rfl, HG.out.1, HFIN.out.symm⟩, HBX.out, HD4.out, HBY.out, HX04.out, HD4.out, ba4.out⟩
    case round =>
      clear HBX HBY HX04 HD4 ba4
      obtain ⟨k, x, E, sx, px, hk, rfl, rfl, htog, hbx, hdx, hby, hb0, hd, hbw⟩ := hrel
      have HT := Lib.hid htog
      have HBX := Lib.hid hbx
      have HDX := Lib.hid hdx
      have HBY := Lib.hid hby
      have HB0 := Lib.hid hb0
      have HD := Lib.hid hd
      have HBW := Lib.hid hbw
      clear htog hbx hdx hby hb0 hd hbw
      by_cases hlt : k < acts.length ∧ E = 0
      · obtain ⟨hlt, rfl⟩ := hlt
        obtain ⟨xs, xp, xl, xst⟩ := x
        have htg : xp = [] ∧ xst = false ∧ xs.length = ss.length ∧ GoodP xs ((wsA ss.length acts).drop k) xl := by
          rcases HT.out with ⟨_, a, b, c, d, _⟩ | ⟨h, _⟩
          · exact ⟨a, b, c, d⟩
          · exact absurd rfl h
        obtain ⟨rfl, rfl, hxl, hgp⟩ := htg
        obtain ⟨sxa, sxn, sxc⟩ := sx
        obtain ⟨pxa, pxn, pxc⟩ := px
        obtain rfl : sxn = xs.length := HDX.out.1.len
        obtain rfl : pxn = 0 := HDX.out.2.len
        obtain ⟨ba, oa, a, hAe, hba, hak, hca⟩ := HX.out.at_ hlt
        subst hAe
        have haok := HOK.out a (List.mem_of_getElem? hak)
        have hws := wsA_drop (n := ss.length) hak
        rw [hws] at hgp
        obtain ⟨asy, aat, aby⟩ := a
        obtain ⟨⟨at0, at1⟩, by0, by1⟩ := haok
        simp only at at0 at1 by0 by1
        have HWR := Lib.hid (good_write (b := aby) hgp rfl)
        have HNX := Lib.hid (tog_step HT.out hws)
        simp only at HWR HNX
        obtain ⟨wt, hwt⟩ : ∃ t, t = aat % (ss.length : Int) := ⟨_, rfl⟩
        rw [← hwt] at HWR HNX
        have hwt0 : 0 ≤ wt := by rw [hwt]; exact Int.emod_nonneg _ (by omega)
        have hwt1 : wt < (ss.length : Int) := by rw [hwt]; exact Int.emod_lt_of_pos _ (by omega)
        have a1 := (HBW.out.cell (p := ⟨ba, oa + k * 3 + 1, none⟩) hba).trans (hca 1 _ rfl)
        have a2 := (HBW.out.cell (p := ⟨ba, oa + k * 3 + 2, none⟩) hba).trans (hca 2 _ rfl)
        have hba2 : ba < wr.heap.size := by have := HBW.out.size; omega
        have hlt2 : decide ((k : Int) < (acts.length : Int)) = true := by simpa using hlt
        have hne : ((ss.length : Int) == 0) = false := by rw [beq_eq_false_iff_ne]; omega
        have htm : aat.tmod (ss.length : Int) = wt := by rw [hwt]; exact Int.tmod_eq_emod_of_nonneg at0
        have hwr : IntKind.i64.wrap aat = aat := by rw [IntKind.wrap_i64]; omega
        have hne2 : ¬ ((ss.length : Int) = 0) := by omega
        have hne3 : ¬ (ss.length = 0) := by omega
        have hem : aat % (ss.length : Int) = wt := hwt.symm
        have HXL := Lib.hid hxl
        clear hca hak hgp hws hxl hwt
        obtain ⟨q0, q1, q2, q3, q4, q5, q6, q7, q8⟩ := HB0.out
        go_wp2_with fail
        go_upto_region 10 with fail
        refine wp_region_tail 10 (by kernel_rfl) (by kernel_rfl) ?_
        simp only [List.take_succ_cons, List.take_zero, List.drop_succ_cons, List.drop_zero]
        repeat still_step
        refine wpStill_nil ?_
        go_upto_region 11 with fail
        obtain ⟨w5, hw5⟩ : ∃ X, X = wr.drew := ⟨_, rfl⟩
        have h5 : Below wr.heap.size wr w5 := by rw [hw5]; exact (Below.refl _ _).drew
        rw [← hw5]
        clear hw5 q0 q1 q2 q3 q4 q5 q6 q7 q8
        have HBX := Lib.hid (HBX.out.step h5)
        have HDX := Lib.hid (HDX.out.step h5)
        have HBY := Lib.hid (HBY.out.step h5)
        have HB0 := Lib.hid (HB0.out.step h5)
        have HD := Lib.hid (HD.out.step h5)
        have HBW := Lib.hid (HBW.out.trans (h5.mono HBW.out.size))
        have a2 := (h5.cell (p := ⟨ba, oa + k * 3 + 2, none⟩) hba2).trans a2
        have hba5 : ba < w5.heap.size := by have := h5.size; omega
        have hbx5 : bx < w5.heap.size := HBX.out.z
        have hby5 : bY < w5.heap.size := HBY.out.z
        have hwn : (wt : Int) = wt := rfl
        clear h5 a1 hba2 hwn
        obtain ⟨r0, r1, r2, r3, rf0, rf1, rf2, rf3, rz⟩ := HBX.out
        have sS : ∀ W, Below w5.heap.size w5 W → (fun W => W.cell? ⟨bx, 0, none⟩ = some (.slice sxa xs.length sxc) ∧ W.cell? ⟨bx, 1, none⟩ = some (.slice pxa 0 pxc) ∧ W.cell? ⟨bx, 2, none⟩ = some (.int .i64 xl) ∧ W.cell? ⟨bx, 3, none⟩ = some (.bool false) ∧ W.cell? ⟨ba, oa + k * 3 + 2, none⟩ = some (.int .u8 aby) ∧ Below w5.heap.size w5 W) W := fun W h => ⟨(HBX.out.step h).c0, (HBX.out.step h).c1, (HBX.out.step h).c2, (HBX.out.step h).c3, (h.cell (p := ⟨ba, oa + k * 3 + 2, none⟩) (by assumption)).trans a2, h⟩
        have SS := Lib.hid sS
        have CW : ∀ Wc blk bz, Below w5.heap.size w5 Wc → By Wc (fun b => b ≠ bx ∧ b ≠ bY ∧ b ≠ bz) ⟨some ⟨blk, 0, none⟩, 1, 1⟩ [aby] → (∀ b, Wc.heap.size ≤ b → b ≠ bz) → (∀ b, b < w5.heap.size → b ≠ bx → b ≠ bz) → Calls Try.prog 19 #[.agg #[.slice sxa xs.length sxc, .slice pxa 0 pxc, .int .i64 xl, .bool false], .int .i64 wt, .slice (some ⟨blk, 0, none⟩) 1 1] Wc fun e w' => (∃ s6 p6 : Sl, e = .returned (.tuple #[.agg #[.slice s6.a s6.n s6.c, .slice p6.a p6.n p6.c, .int .i64 xl, .bool false], .int .i64 0]) ∧ Di w' (fun b => b ≠ bx ∧ b ≠ bY ∧ b ≠ bz) s6 p6 ⟨xs, [(wt, padS [aby])], xl, false⟩) ∧ Below Wc.heap.size Wc w' := fun Wc blk bz h hy hz1 hz2 => by
          refine (Write_any (P := (fun b => b ≠ bx ∧ b ≠ bY ∧ b ≠ bz)) ⟨xs, [], xl, false⟩ ⟨sxa, xs.length, sxc⟩ ⟨pxa, 0, pxc⟩ ⟨some ⟨blk, 0, none⟩, 1, 1⟩ wt [aby] Wc (((HDX.out).mono2 (fun b hb hl => ⟨hb.1, hb.2, hz2 b hl hb.1⟩)).step h) hy).mono ?_
          rw [HWR.out]
          rintro e w' ⟨⟨s6, p6, rfl, hdn⟩, hb⟩
          exact ⟨⟨s6, p6, rfl, hdn.nw (fun b hb2 => ⟨by have := h.size; omega, by have := h.size; omega, hz1 b hb2⟩)⟩, hb⟩
        have CWH := Lib.hid CW
        have yA0 := one_by w5 (fun b => b ≠ bx ∧ b ≠ bY ∧ b ≠ bx) aby ⟨by0, by1⟩ ⟨by omega, by omega, by omega⟩
        have yB0 := (one_by w5 (fun b => b ≠ bx ∧ b ≠ bY ∧ b ≠ (w5.heap.size + 1)) aby ⟨by0, by1⟩ ⟨by omega, by omega, by omega⟩).step ((Below.refl _ _).alloc (Nat.le_refl _) (.cells #[.slice none 0 0, .slice none 0 0, .int .i64 0, .bool false] 25))
        have yC0 := one_by (w5.alloc (.cells #[.slice none 0 0, .slice none 0 0, .int .i64 0, .bool false] 25)) (fun b => b ≠ bx ∧ b ≠ bY ∧ b ≠ w5.heap.size) aby ⟨by0, by1⟩ ⟨by simp; omega, by simp; omega, by simp⟩
        simp only [World.size_alloc] at yC0
        have yA := Lib.hid yA0.drew
        have yB := Lib.hid yB0.drew
        have yC := Lib.hid yC0.drew
        have hA0 : Below w5.heap.size w5 (w5.alloc (.cells #[.int .u8 aby] 5)) := (Below.refl _ _).alloc (Nat.le_refl _) _
        have hA20 : Below w5.heap.size w5 (w5.alloc (.cells #[.slice none 0 0, .slice none 0 0, .int .i64 0, .bool false] 25)) := (Below.refl _ _).alloc (Nat.le_refl _) _
        have hA := hA0.drew
        have hA2 := hA20.drew
        have hBB : Below w5.heap.size w5 ((w5.alloc (.cells #[.int .u8 aby] 5)).alloc (.cells #[.slice none 0 0, .slice none 0 0, .int .i64 0, .bool false] 25)).drew := (hA0.alloc hA0.size _).drew
        have hCC : Below w5.heap.size w5 ((w5.alloc (.cells #[.slice none 0 0, .slice none 0 0, .int .i64 0, .bool false] 25)).alloc (.cells #[.int .u8 aby] 5)).drew := (hA20.alloc hA20.size _).drew
        have xB := Lib.hid (Box4.at_ (w5.alloc (.cells #[.int .u8 aby] 5)) (.slice none 0 0) (.slice none 0 0) (.int .i64 0) (.bool false) 25 (w5.heap.size + 1) (by simp)).drewn
        have xC := Lib.hid ((Box4.new w5 (.slice none 0 0) (.slice none 0 0) (.int .i64 0) (.bool false) 25).step ((Below.refl _ _).alloc (Nat.le_refl _) (.cells #[.int .u8 aby] 5))).drewn
        clear yA0 yB0 yC0 sS CW
        have hk0 : w5.heap.size ≤ w5.heap.size := Nat.le_refl _
        have hk1 : w5.heap.size ≤ w5.heap.size + 1 := Nat.le_succ _
        have oA := Lib.hid (show (∀ b, (w5.alloc (.cells #[.int .u8 aby] 5)).drew.heap.size ≤ b → b ≠ bx) ∧ (∀ b, b < w5.heap.size → b ≠ bx → b ≠ bx) from ⟨fun b h => by simp at h; omega, fun b _ h => h⟩)
        have oB := Lib.hid (show (∀ b, ((w5.alloc (.cells #[.int .u8 aby] 5)).alloc (.cells #[.slice none 0 0, .slice none 0 0, .int .i64 0, .bool false] 25)).drew.heap.size ≤ b → b ≠ w5.heap.size + 1) ∧ (∀ b, b < w5.heap.size → b ≠ bx → b ≠ w5.heap.size + 1) from ⟨fun b h => by simp at h; omega, fun b _ h => by omega⟩)
        have oC := Lib.hid (show (∀ b, ((w5.alloc (.cells #[.slice none 0 0, .slice none 0 0, .int .i64 0, .bool false] 25)).alloc (.cells #[.int .u8 aby] 5)).drew.heap.size ≤ b → b ≠ w5.heap.size) ∧ (∀ b, b < w5.heap.size → b ≠ bx → b ≠ w5.heap.size) from ⟨fun b h => by simp at h; omega, fun b _ h => by omega⟩)
        go_cut [10, 11] from 49 to 87 (fun vz vf wx => ∃ (bz : Nat) (s6 p6 : Sl), vz = .pointer (some ⟨bz, 0, none⟩) ∧ vf = .int .i64 0 ∧ Box4 wx bz (.slice s6.a s6.n s6.c) (.slice p6.a p6.n p6.c) (.int .i64 xl) (.bool false) ∧ Di wx (fun b => b ≠ bx ∧ b ≠ bY) s6 p6 ⟨xs, [(wt, padS [aby])], xl, false⟩ ∧ Below w5.heap.size w5 wx ∧ w5.heap.size ≤ bz)
        case first =>
          go_region_held3 (fun W => W.cell? ⟨bx, 0, none⟩ = some (.slice sxa xs.length sxc) ∧ W.cell? ⟨bx, 1, none⟩ = some (.slice pxa 0 pxc) ∧ W.cell? ⟨bx, 2, none⟩ = some (.int .i64 xl) ∧ W.cell? ⟨bx, 3, none⟩ = some (.bool false) ∧ W.cell? ⟨ba, oa + k * 3 + 2, none⟩ = some (.int .u8 aby) ∧ Below w5.heap.size w5 W) (first | with_reducible exact SS.out _ (Below.refl w5.heap.size w5).drew | with_reducible exact SS.out _ hA | with_reducible exact SS.out _ hA2 | with_reducible exact SS.out _ hBB | with_reducible exact SS.out _ hCC | with_reducible exact SS.out _ (hA.trans (hb6.mono hA.size)) | with_reducible exact SS.out _ (hBB.trans (hb6.mono hBB.size)) | with_reducible exact SS.out _ (hCC.trans (hb6.mono hCC.size)) | with_reducible exact SS.out _ ((hA.trans (hb6.mono hA.size)).alloc (Nat.le_trans hA.size hb6.size) _) | with_reducible exact SS.out _ (chain_below (hBB.trans (hb6.mono hBB.size)) hk1 _ _ _ _) | with_reducible exact SS.out _ (chain_below (hCC.trans (hb6.mono hCC.size)) hk0 _ _ _ _)) (first | (go_at_call 19; with_reducible refine Calls.mono (CWH.out _ _ _ hA yA.out oA.out.1 oA.out.2) ?_; rintro e w6 ⟨⟨s6, p6, rfl, hd6⟩, hb6⟩) | (go_at_call 19; with_reducible refine Calls.mono (CWH.out _ _ _ hBB yB.out oB.out.1 oB.out.2) ?_; rintro e w6 ⟨⟨s6, p6, rfl, hd6⟩, hb6⟩; obtain ⟨z0, z1, z2, z3, zf0, zf1, zf2, zf3, zz⟩ := xB.out.step hb6) | (go_at_call 19; with_reducible refine Calls.mono (CWH.out _ _ _ hCC yC.out oC.out.1 oC.out.2) ?_; rintro e w6 ⟨⟨s6, p6, rfl, hd6⟩, hb6⟩; obtain ⟨z0, z1, z2, z3, zf0, zf1, zf2, zf3, zz⟩ := xC.out.step hb6))
          all_goals
            go_simp
            go_wp2_with fail
            go_meet
            first
              | exact ⟨w6.heap.size, s6, p6, rfl, rfl, Box4.new .., (hd6.mono (fun b h => ⟨h.1, h.2.1⟩)).step ((Below.refl _ _).alloc (Nat.le_refl _) _), ((hA.trans (hb6.mono hA.size)).alloc (Nat.le_trans hA.size hb6.size) _), Nat.le_trans hA.size hb6.size⟩
              | exact ⟨w5.heap.size + 1, s6, p6, rfl, rfl, (xB.out.step hb6).put _ _ _ _, (hd6.keep (Kp.of_grown (put4_keep _ _ _ _) (fun h => h.2.2 rfl))).mono (fun b h => ⟨h.1, h.2.1⟩), put4_below (hBB.trans (hb6.mono hBB.size)) hk1 _ _ _ _, hk1⟩
              | exact ⟨w5.heap.size, s6, p6, rfl, rfl, (xC.out.step hb6).put _ _ _ _, (hd6.keep (Kp.of_grown (put4_keep _ _ _ _) (fun h => h.2.2 rfl))).mono (fun b h => ⟨h.1, h.2.1⟩), put4_below (hCC.trans (hb6.mono hCC.size)) hk0 _ _ _ _, hk0⟩
        case rest =>
          obtain ⟨w7, hwc⟩ : ∃ X, X = wc := ⟨_, rfl⟩
          subst hwc
          obtain ⟨bz, s6, p6, rfl, rfl, hbz, hdz, hb7, hzz⟩ := hcut
          have HBX := Lib.hid (HBX.out.step hb7)
          have HBY := Lib.hid (HBY.out.step hb7)
          have HB0 := Lib.hid (HB0.out.step hb7)
          have HD := Lib.hid (HD.out.step hb7)
          have HBW := Lib.hid (HBW.out.trans (hb7.mono HBW.out.size))
          have HDZ := Lib.hid hdz
          have HBZ := Lib.hid hbz
          obtain ⟨Y, E2, hS⟩ : ∃ Y E2, syncD ⟨xs, [(wt, padS [aby])], xl, false⟩ = (Y, E2) := ⟨_, _, rfl⟩
          rw [hS] at HNX
          simp only at HNX
          have hSy := Lib.hid (Sync_any (P := fun b => b ≠ bx ∧ b ≠ bY) ⟨xs, [(wt, padS [aby])], xl, false⟩ s6 p6 w7 HDZ.out)
          rw [hS] at hSy
          simp only [dkV] at hSy
          have hz7 := hb7.size
          clear r0 r1 r2 r3 rf0 rf1 rf2 rf3 rz a2 hbz hdz hb7 hS hne hne2 hne3 htm hem hwr HWR
          obtain ⟨t0, t1, t2, t3, tf0, tf1, tf2, tf3, tz⟩ := HBZ.out
          go_wp2_with fail
          refine hSy.out.mono ?_
          rintro e w8 ⟨⟨s7, p7, rfl, hdn⟩, hb8⟩
          clear t0 t1 t2 t3 tf0 tf1 tf2 tf3 tz hSy
          have HDN := Lib.hid (hdn.nw (fun b hb => ⟨by omega, by omega⟩))
          have HBX := Lib.hid (HBX.out.step hb8)
          have HBY := Lib.hid (HBY.out.step hb8)
          have HB0 := Lib.hid (HB0.out.step hb8)
          have HD := Lib.hid (HD.out.step hb8)
          have HBW := Lib.hid (HBW.out.trans (hb8.mono HBW.out.size))
          have hz8 := hb8.size
          clear hdn hb8
          obtain ⟨t0, t1, t2, t3, tf0, tf1, tf2, tf3, tz⟩ := HBX.out
          have KP : Hid (∀ v0 v1 v2 v3, Kp (fun b => b ≠ bx ∧ b ≠ bY) w8 (put4 w8 bx v0 v1 v2 v3)) := Lib.hid (fun _ _ _ _ => Kp.of_grown (put4_keep _ _ _ _) (fun h => h.1 rfl))
          go_wp2_with fail
          go_roundw
          case rel => exact ⟨k + 1, Y, E2, s7, p7, by omega, by go_num, rfl, HNX.out, HBX.out.put _ _ _ _, HDN.out.keep (KP.out _ _ _ _), HBY.out.far (put4_keep _ _ _ _) (by simp only [ne_eq, Option.some.injEq]; exact hxy), HB0.out.far (put4_keep _ _ _ _) (by simp only [ne_eq, Option.some.injEq]; exact hxd), HD.out.keep (KP.out _ _ _ _), put4_below HBW.out hwx _ _ _ _⟩
          case measure => simp [intOf]; omega
      · have hfin : (x, E) = FIN := tog_done HT.out (by rw [wsA_len]; omega)
        have hways : decide (k < acts.length) = false ∨ (decide (k < acts.length) = true ∧ (E == 0) = false) := by
          by_cases h : k < acts.length
          · exact .inr ⟨by simpa using h, by rw [beq_eq_false_iff_ne]; exact fun e => hlt ⟨h, e⟩⟩
          · exact .inl (by simpa using h)
        have HF := Lib.hid hfin
        clear hfin hlt HT
        rcases hways with g1 | ⟨g1, g2⟩
        all_goals
          go_wp2_with fail
          (try clear g1)
          (try clear g2)
          go_loopw [12] (fun v12 wr => ∃ (k : Nat) (sy py : Sl), k ≤ acts.length ∧ v12 = .int .i64 k ∧ Box4 wr bY (.slice sy.a sy.n sy.c) (.slice py.a py.n py.c) (.int .i64 left) (.bool false) ∧ Di wr (fun b => b ≠ bx ∧ b ≠ bY) sy py ⟨ss, (wsA ss.length acts).take k, left, false⟩ ∧ Box4 wr bx (.slice sx.a sx.n sx.c) (.slice px.a px.n px.c) (.int .i64 x.left) (.bool x.stopped) ∧ Di wr (fun b => b ≠ bx ∧ b ≠ bY) sx px x ∧
              Box4 wr w.heap.size (.slice sa ss.length sc) (.slice pa 0 pc) (.int .i64 left) (.bool false) ∧ Below w.heap.size w wr) (fun v12 _ => acts.length - (intOf v12).toNat)
          case atStart => exact ⟨0, ⟨sa, ss.length, sc⟩, ⟨pa, 0, pc⟩, Nat.zero_le _, rfl, HBY.out, HD.out, HBX.out, HDX.out, HB0.out, HBW.out⟩
          case round =>
            clear HBX HDX HBY HB0 HD HBW hk
            obtain ⟨k, sy, py, hk, rfl, hby, hdy, hbx, hdx, hb0, hbw⟩ := hrel
            have HBX := Lib.hid hbx
            have HDX := Lib.hid hdx
            have HBY := Lib.hid hby
            have HDY := Lib.hid hdy
            have HB0 := Lib.hid hb0
            have HBW := Lib.hid hbw
            clear hbx hdx hby hb0 hdy hbw
            by_cases hlt : k < acts.length
            · obtain ⟨sya, syn, syc⟩ := sy
              obtain ⟨pya, pyn, pyc⟩ := py
              obtain rfl : syn = ss.length := HDY.out.1.len
              have hpl : ((wsA ss.length acts).take k).length = k := by rw [List.length_take, wsA_len]; omega
              obtain rfl : k = pyn := by have := HDY.out.2.len; simp only at this; omega
              obtain ⟨ba, oa, a, hAe, hba, hak, hca⟩ := HX.out.at_ hlt
              subst hAe
              have haok := HOK.out a (List.mem_of_getElem? hak)
              have hws := wsA_take (n := ss.length) hak
              obtain ⟨asy, aat, aby⟩ := a
              obtain ⟨⟨at0, at1⟩, by0, by1⟩ := haok
              simp only at at0 at1 by0 by1
              have HWR := Lib.hid (good_write2 (b := aby) HG.out.1 hws rfl (by rw [wsA_len]; exact c1))
              simp only at HWR
              obtain ⟨wt, hwt⟩ : ∃ t, t = aat % (ss.length : Int) := ⟨_, rfl⟩
              rw [← hwt] at HWR
              have a1 := (HBW.out.cell (p := ⟨ba, oa + k * 3 + 1, none⟩) hba).trans (hca 1 _ rfl)
              have a2 := (HBW.out.cell (p := ⟨ba, oa + k * 3 + 2, none⟩) hba).trans (hca 2 _ rfl)
              have hba2 : ba < wr.heap.size := by have := HBW.out.size; omega
              have hlt2 : decide ((k : Int) < (acts.length : Int)) = true := by simpa using hlt
              have hne : ((ss.length : Int) == 0) = false := by rw [beq_eq_false_iff_ne]; omega
              have htm : aat.tmod (ss.length : Int) = wt := by rw [hwt]; exact Int.tmod_eq_emod_of_nonneg at0
              have hwr : IntKind.i64.wrap aat = aat := by rw [IntKind.wrap_i64]; omega
              have hne2 : ¬ ((ss.length : Int) = 0) := by omega
              have hne3 : ¬ (ss.length = 0) := by omega
              have hem : aat % (ss.length : Int) = wt := hwt.symm
              clear hca hak hws hwt hpl
              go_upto_region 18 with fail
              obtain ⟨w5, hw5⟩ : ∃ X, X = wr := ⟨_, rfl⟩
              subst hw5
              have hba5 : ba < w5.heap.size := hba2
              have hbx5 : bx < w5.heap.size := HBX.out.z
              have hby5 : bY < w5.heap.size := HBY.out.z
              have hd0 := HB0.out.c0
              have hdz0 := HB0.out.z
              obtain ⟨r0, r1, r2, r3, rf0, rf1, rf2, rf3, rz⟩ := HBY.out
              have sS : ∀ W, Below w5.heap.size w5 W → (fun W => W.cell? ⟨bY, 0, none⟩ = some (.slice sya ss.length syc) ∧ W.cell? ⟨bY, 1, none⟩ = some (.slice pya k pyc) ∧ W.cell? ⟨bY, 2, none⟩ = some (.int .i64 left) ∧ W.cell? ⟨bY, 3, none⟩ = some (.bool false) ∧ W.cell? ⟨ba, oa + k * 3 + 2, none⟩ = some (.int .u8 aby) ∧ W.cell? ⟨ba, oa + k * 3 + 1, none⟩ = some (.int .u8 aat) ∧ W.cell? ⟨w.heap.size, 0, none⟩ = some (.slice sa ss.length sc) ∧ Below w5.heap.size w5 W) W := fun W h => ⟨(HBY.out.step h).c0, (HBY.out.step h).c1, (HBY.out.step h).c2, (HBY.out.step h).c3, (h.cell (p := ⟨ba, oa + k * 3 + 2, none⟩) (by assumption)).trans a2, (h.cell (p := ⟨ba, oa + k * 3 + 1, none⟩) (by assumption)).trans a1, (h.cell (p := ⟨w.heap.size, 0, none⟩) (by assumption)).trans hd0, h⟩
              have SS := Lib.hid sS
              have CW : ∀ Wc blk bz, Below w5.heap.size w5 Wc → By Wc (fun b => b ≠ bx ∧ b ≠ bY ∧ b ≠ bz) ⟨some ⟨blk, 0, none⟩, 1, 1⟩ [aby] → (∀ b, Wc.heap.size ≤ b → b ≠ bz) → (∀ b, b < w5.heap.size → b ≠ bx → b ≠ bz) → Calls Try.prog 19 #[.agg #[.slice sya ss.length syc, .slice pya k pyc, .int .i64 left, .bool false], .int .i64 wt, .slice (some ⟨blk, 0, none⟩) 1 1] Wc fun e w' => (∃ s6 p6 : Sl, e = .returned (.tuple #[.agg #[.slice s6.a s6.n s6.c, .slice p6.a p6.n p6.c, .int .i64 left, .bool false], .int .i64 0]) ∧ Di w' (fun b => b ≠ bx ∧ b ≠ bY ∧ b ≠ bz) s6 p6 ⟨ss, (wsA ss.length acts).take (k + 1), left, false⟩) ∧ Below Wc.heap.size Wc w' := fun Wc blk bz h hy hz1 hz2 => by
                refine (Write_any (P := (fun b => b ≠ bx ∧ b ≠ bY ∧ b ≠ bz)) ⟨ss, (wsA ss.length acts).take k, left, false⟩ ⟨sya, ss.length, syc⟩ ⟨pya, k, pyc⟩ ⟨some ⟨blk, 0, none⟩, 1, 1⟩ wt [aby] Wc (((HDY.out).mono2 (fun b hb hl => ⟨hb.1, hb.2, hz2 b hl hb.1⟩)).step h) hy).mono ?_
                rw [HWR.out]
                rintro e w' ⟨⟨s6, p6, rfl, hdn⟩, hb⟩
                exact ⟨⟨s6, p6, rfl, hdn.nw (fun b hb2 => ⟨by have := h.size; omega, by have := h.size; omega, hz1 b hb2⟩)⟩, hb⟩
              have CWH := Lib.hid CW
              have yA0 := one_by w5 (fun b => b ≠ bx ∧ b ≠ bY ∧ b ≠ bx) aby ⟨by0, by1⟩ ⟨by omega, by omega, by omega⟩
              have yB0 := (one_by w5 (fun b => b ≠ bx ∧ b ≠ bY ∧ b ≠ (w5.heap.size + 1)) aby ⟨by0, by1⟩ ⟨by omega, by omega, by omega⟩).step ((Below.refl _ _).alloc (Nat.le_refl _) (.cells #[.slice none 0 0, .slice none 0 0, .int .i64 0, .bool false] 25))
              have yC0 := one_by (w5.alloc (.cells #[.slice none 0 0, .slice none 0 0, .int .i64 0, .bool false] 25)) (fun b => b ≠ bx ∧ b ≠ bY ∧ b ≠ w5.heap.size) aby ⟨by0, by1⟩ ⟨by simp; omega, by simp; omega, by simp⟩
              simp only [World.size_alloc] at yC0
              have yA := Lib.hid yA0.drew
              have yB := Lib.hid yB0.drew
              have yC := Lib.hid yC0.drew
              have hA0 : Below w5.heap.size w5 (w5.alloc (.cells #[.int .u8 aby] 5)) := (Below.refl _ _).alloc (Nat.le_refl _) _
              have hA20 : Below w5.heap.size w5 (w5.alloc (.cells #[.slice none 0 0, .slice none 0 0, .int .i64 0, .bool false] 25)) := (Below.refl _ _).alloc (Nat.le_refl _) _
              have hA := hA0.drew
              have hA2 := hA20.drew
              have hBB : Below w5.heap.size w5 ((w5.alloc (.cells #[.int .u8 aby] 5)).alloc (.cells #[.slice none 0 0, .slice none 0 0, .int .i64 0, .bool false] 25)).drew := (hA0.alloc hA0.size _).drew
              have hCC : Below w5.heap.size w5 ((w5.alloc (.cells #[.slice none 0 0, .slice none 0 0, .int .i64 0, .bool false] 25)).alloc (.cells #[.int .u8 aby] 5)).drew := (hA20.alloc hA20.size _).drew
              have xB := Lib.hid (Box4.at_ (w5.alloc (.cells #[.int .u8 aby] 5)) (.slice none 0 0) (.slice none 0 0) (.int .i64 0) (.bool false) 25 (w5.heap.size + 1) (by simp)).drewn
              have xC := Lib.hid ((Box4.new w5 (.slice none 0 0) (.slice none 0 0) (.int .i64 0) (.bool false) 25).step ((Below.refl _ _).alloc (Nat.le_refl _) (.cells #[.int .u8 aby] 5))).drewn
              clear yA0 yB0 yC0 sS CW
              have hk0 : w5.heap.size ≤ w5.heap.size := Nat.le_refl _
              have hk1 : w5.heap.size ≤ w5.heap.size + 1 := Nat.le_succ _
              have oA := Lib.hid (show (∀ b, (w5.alloc (.cells #[.int .u8 aby] 5)).drew.heap.size ≤ b → b ≠ bx) ∧ (∀ b, b < w5.heap.size → b ≠ bx → b ≠ bx) from ⟨fun b h => by simp at h; omega, fun b _ h => h⟩)
              have oB := Lib.hid (show (∀ b, ((w5.alloc (.cells #[.int .u8 aby] 5)).alloc (.cells #[.slice none 0 0, .slice none 0 0, .int .i64 0, .bool false] 25)).drew.heap.size ≤ b → b ≠ w5.heap.size + 1) ∧ (∀ b, b < w5.heap.size → b ≠ bx → b ≠ w5.heap.size + 1) from ⟨fun b h => by simp at h; omega, fun b _ h => by omega⟩)
              have oC := Lib.hid (show (∀ b, ((w5.alloc (.cells #[.slice none 0 0, .slice none 0 0, .int .i64 0, .bool false] 25)).alloc (.cells #[.int .u8 aby] 5)).drew.heap.size ≤ b → b ≠ w5.heap.size) ∧ (∀ b, b < w5.heap.size → b ≠ bx → b ≠ w5.heap.size) from ⟨fun b h => by simp at h; omega, fun b _ h => by omega⟩)
              go_cut [12, 13, 14] from 88 to 117 (fun vi vz vf wx => ∃ (bz : Nat) (s6 p6 : Sl), vi = .int .i64 k ∧ vz = .pointer (some ⟨bz, 0, none⟩) ∧ vf = .int .i64 0 ∧ Box4 wx bz (.slice s6.a s6.n s6.c) (.slice p6.a p6.n p6.c) (.int .i64 left) (.bool false) ∧ Di wx (fun b => b ≠ bx ∧ b ≠ bY) s6 p6 ⟨ss, (wsA ss.length acts).take (k + 1), left, false⟩ ∧ Below w5.heap.size w5 wx ∧ w5.heap.size ≤ bz)
              case first =>
                go_region_held3 (fun W => W.cell? ⟨bY, 0, none⟩ = some (.slice sya ss.length syc) ∧ W.cell? ⟨bY, 1, none⟩ = some (.slice pya k pyc) ∧ W.cell? ⟨bY, 2, none⟩ = some (.int .i64 left) ∧ W.cell? ⟨bY, 3, none⟩ = some (.bool false) ∧ W.cell? ⟨ba, oa + k * 3 + 2, none⟩ = some (.int .u8 aby) ∧ W.cell? ⟨ba, oa + k * 3 + 1, none⟩ = some (.int .u8 aat) ∧ W.cell? ⟨w.heap.size, 0, none⟩ = some (.slice sa ss.length sc) ∧ Below w5.heap.size w5 W) (first | with_reducible exact SS.out _ (Below.refl w5.heap.size w5).drew | with_reducible exact SS.out _ hA | with_reducible exact SS.out _ hA2 | with_reducible exact SS.out _ hBB | with_reducible exact SS.out _ hCC | with_reducible exact SS.out _ (hA.trans (hb6.mono hA.size)) | with_reducible exact SS.out _ (hBB.trans (hb6.mono hBB.size)) | with_reducible exact SS.out _ (hCC.trans (hb6.mono hCC.size)) | with_reducible exact SS.out _ ((hA.trans (hb6.mono hA.size)).alloc (Nat.le_trans hA.size hb6.size) _) | with_reducible exact SS.out _ (chain_below (hBB.trans (hb6.mono hBB.size)) hk1 _ _ _ _) | with_reducible exact SS.out _ (chain_below (hCC.trans (hb6.mono hCC.size)) hk0 _ _ _ _)) (first | (go_at_call 19; with_reducible refine Calls.mono (CWH.out _ _ _ hA yA.out oA.out.1 oA.out.2) ?_; rintro e w6 ⟨⟨s6, p6, rfl, hd6⟩, hb6⟩) | (go_at_call 19; with_reducible refine Calls.mono (CWH.out _ _ _ hBB yB.out oB.out.1 oB.out.2) ?_; rintro e w6 ⟨⟨s6, p6, rfl, hd6⟩, hb6⟩; obtain ⟨z0, z1, z2, z3, zf0, zf1, zf2, zf3, zz⟩ := xB.out.step hb6) | (go_at_call 19; with_reducible refine Calls.mono (CWH.out _ _ _ hCC yC.out oC.out.1 oC.out.2) ?_; rintro e w6 ⟨⟨s6, p6, rfl, hd6⟩, hb6⟩; obtain ⟨z0, z1, z2, z3, zf0, zf1, zf2, zf3, zz⟩ := xC.out.step hb6))
                all_goals
                  go_simp
                  go_wp2_with fail
                  go_meet
                  first
                    | exact ⟨w6.heap.size, s6, p6, rfl, rfl, rfl, Box4.new .., (hd6.mono (fun b h => ⟨h.1, h.2.1⟩)).step ((Below.refl _ _).alloc (Nat.le_refl _) _), ((hA.trans (hb6.mono hA.size)).alloc (Nat.le_trans hA.size hb6.size) _), Nat.le_trans hA.size hb6.size⟩
                    | exact ⟨w5.heap.size + 1, s6, p6, rfl, rfl, rfl, (xB.out.step hb6).put _ _ _ _, (hd6.keep (Kp.of_grown (put4_keep _ _ _ _) (fun h => h.2.2 rfl))).mono (fun b h => ⟨h.1, h.2.1⟩), put4_below (hBB.trans (hb6.mono hBB.size)) hk1 _ _ _ _, hk1⟩
                    | exact ⟨w5.heap.size, s6, p6, rfl, rfl, rfl, (xC.out.step hb6).put _ _ _ _, (hd6.keep (Kp.of_grown (put4_keep _ _ _ _) (fun h => h.2.2 rfl))).mono (fun b h => ⟨h.1, h.2.1⟩), put4_below (hCC.trans (hb6.mono hCC.size)) hk0 _ _ _ _, hk0⟩
              case rest =>
                obtain ⟨w7, hwc⟩ : ∃ X, X = wc := ⟨_, rfl⟩
                subst hwc
                obtain ⟨bz, s6, p6, rfl, rfl, rfl, hbz, hdz, hb7, hzz⟩ := hcut
                have HBX := Lib.hid (HBX.out.step hb7)
                have HDX := Lib.hid (HDX.out.step hb7)
                have HBY := Lib.hid (HBY.out.step hb7)
                have HB0 := Lib.hid (HB0.out.step hb7)
                have HBW := Lib.hid (HBW.out.trans (hb7.mono HBW.out.size))
                have HDZ := Lib.hid hdz
                have HBZ := Lib.hid hbz
                have hz7 := hb7.size
                have hzy : bz ≠ bY := by omega
                clear r0 r1 r2 r3 rf0 rf1 rf2 rf3 rz a1 a2 hd0 hbz hdz hb7 hne hne2 hne3 htm hem hwr HWR
                obtain ⟨t0, t1, t2, t3, tf0, tf1, tf2, tf3, tz⟩ := HBZ.out
                obtain ⟨u0, u1, u2, u3, uf0, uf1, uf2, uf3, uz⟩ := HBY.out
                have KP : Hid (∀ v0 v1 v2 v3, Kp (fun b => b ≠ bx ∧ b ≠ bY) w7 (put4 w7 bY v0 v1 v2 v3)) := Lib.hid (fun _ _ _ _ => Kp.of_grown (put4_keep _ _ _ _) (fun h => h.2 rfl))
                go_wp2_with fail
                go_roundw
                case rel => exact ⟨k + 1, s6, p6, by omega, by go_num, HBY.out.put _ _ _ _, HDZ.out.keep (KP.out _ _ _ _), HBX.out.far (put4_keep _ _ _ _) (by simp only [ne_eq, Option.some.injEq]; exact fun e => hxy e.symm), HDX.out.keep (KP.out _ _ _ _), HB0.out.far (put4_keep _ _ _ _) (by simp only [ne_eq, Option.some.injEq]; exact hyd), put4_below HBW.out hwy _ _ _ _⟩
                case measure => simp [intOf]; omega
            · obtain rfl : acts.length = k := by omega
              have htk : (wsA ss.length acts).take acts.length = wsA ss.length acts := List.take_of_length_le (by rw [wsA_len]; exact Nat.le_refl _)
              have hS : syncD ⟨ss, wsA ss.length acts, left, false⟩ = (x, E) := by rw [← HALL.out, ← HF.out]
              have hdy := HDY.out
              rw [htk] at hdy
              have hSy := Lib.hid (Sync_any (P := fun b => b ≠ bx ∧ b ≠ bY) ⟨ss, wsA ss.length acts, left, false⟩ sy py wr hdy)
              rw [hS] at hSy
              simp only [dkV] at hSy
              clear htk hS hdy HDY
              have hbx5 : bx < wr.heap.size := HBX.out.z
              have hby5 : bY < wr.heap.size := HBY.out.z
              obtain ⟨r0, r1, r2, r3, rf0, rf1, rf2, rf3, rz⟩ := HBY.out
              go_wp2_with fail
              refine hSy.out.mono ?_
              rintro e w8 ⟨⟨s9, p9, rfl, hdn⟩, hb8⟩
              clear r0 r1 r2 r3 rf0 rf1 rf2 rf3 rz hSy
              have HDN := Lib.hid (hdn.nw (fun b hb => ⟨by omega, by omega⟩))
              have HBX := Lib.hid (HBX.out.step hb8)
              have HDX := Lib.hid (HDX.out.step hb8)
              have HBY := Lib.hid (HBY.out.step hb8)
              have HBW := Lib.hid (HBW.out.trans (hb8.mono HBW.out.size))
              clear hdn hb8
              obtain ⟨t0, t1, t2, t3, tf0, tf1, tf2, tf3, tz⟩ := HBY.out
              go_upto_region 23 with fail
              obtain ⟨w9, hw9⟩ : ∃ X, X = put4 w8 bY (.slice s9.a s9.n s9.c) (.slice p9.a p9.n p9.c) (.int .i64 x.left) (.bool x.stopped) := ⟨_, rfl⟩
              have kp : Kp (fun b => b ≠ bx ∧ b ≠ bY) w8 w9 := by rw [hw9]; exact Kp.of_grown (put4_keep _ _ _ _) (fun h => h.2 rfl)
              have HBX := Lib.hid (show Box4 w9 bx (.slice sx.a sx.n sx.c) (.slice px.a px.n px.c) (.int .i64 x.left) (.bool x.stopped) by rw [hw9]; exact HBX.out.far (put4_keep _ _ _ _) (by simp only [ne_eq, Option.some.injEq]; exact fun e => hxy e.symm))
              have HBY := Lib.hid (show Box4 w9 bY (.slice s9.a s9.n s9.c) (.slice p9.a p9.n p9.c) (.int .i64 x.left) (.bool x.stopped) by rw [hw9]; exact HBY.out.put _ _ _ _)
              have HBW := Lib.hid (show Below w.heap.size w w9 by rw [hw9]; exact put4_below HBW.out hwy _ _ _ _)
              have HDX := Lib.hid (HDX.out.keep kp)
              have HDN := Lib.hid (HDN.out.keep kp)
              unfold put4 at hw9
              rw [← hw9]
              clear hw9 kp t0 t1 t2 t3 tf0 tf1 tf2 tf3 tz
              obtain ⟨r0, r1, r2, r3, rf0, rf1, rf2, rf3, rz⟩ := HBX.out
              obtain ⟨t0, t1, t2, t3, tf0, tf1, tf2, tf3, tz⟩ := HBY.out
              go_wp2_with fail
              refine (Same_any (P := fun b => b ≠ bx ∧ b ≠ bY) (Q := fun b => b ≠ bx ∧ b ≠ bY) x sx px s9 p9 _ HDX.out HDN.out).mono ?_
              rintro e w10 ⟨rfl, hb10⟩
              have HBW := Lib.hid (HBW.out.trans (hb10.mono HBW.out.size))
              clear hb10 r0 r1 r2 r3 rf0 rf1 rf2 rf3 rz t0 t1 t2 t3 tf0 tf1 tf2 tf3 tz
              go_wp2_with fail
              go_ret
              exact ⟨rfl, HBW.out⟩

theorem DiskTogether_any {w : World} (x : Sl × Sl × Dk) (hx : Di w everyB x.1 x.2.1 x.2.2) (acts : List Ac) (A : Option Addr) (c : Nat) (h1 : Reads w w.heap.size A 3 Ac.enc acts) (q1 : ∀ y ∈ acts, y.ok) (hl : acts.length ≤ maxLen) :
    Calls Try.prog 8 #[dkV x.1 x.2.1 x.2.2, .slice A acts.length c] w fun e w' => e = .returned (.bool true) ∧ Below w.heap.size w w' :=
  Together_walk x.1 x.2.1 x.2.2 acts A c w hx h1 q1 hl
end Go.Proofs.Ytebbmplbpgilaaa
