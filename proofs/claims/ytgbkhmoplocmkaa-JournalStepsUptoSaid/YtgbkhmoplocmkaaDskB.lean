/- isSector, ContainsFunc at writes and at sectors, Check, runs, has. -/
import Derived.Test.YtgbkhmoplocmkaaDskA
import Derived.BigQuiet
import Derived.BigRegion
import Derived.Deep.QuietTactic
import Derived.StillTailTactics
namespace Go.Proofs.Ytgbkhmoplocmkaa
open Go.RowKit Go.Shelf
set_option linter.unusedSimpArgs false
set_option linter.unusedVariables false
set_option maxRecDepth 20000

def CellAt (W : World) (b o : Nat) (v : Value) : Prop := W.cell? ⟨b, o, none⟩ = some v ∧ b < W.heap.size
theorem CellAt.step {W W' : World} {b o : Nat} {v : Value} (h : CellAt W b o v) (hb : Below W.heap.size W W') : CellAt W' b o v :=
  ⟨(hb.cell (p := ⟨b, o, none⟩) h.2).trans h.1, by have := hb.size; have := h.2; omega⟩
theorem CellAt.new {w w' : World} {cs : Array Value} {t : TypeId} {B : Nat} (g : Nat) (hg : g = w.heap.size) (h : Below B (w.alloc (.cells cs t)) w') (hB : g < B) (o : Nat) (v : Value) (hv : cs[o]? = some v) : CellAt w' g o v := by
  obtain ⟨h1, _, h3⟩ := below_at g hg h hB
  exact ⟨(h1 o).trans hv, h3⟩
theorem cell_here (w : World) (cs : Array Value) (t : TypeId) (o : Nat) (v : Value) (h : cs[o]? = some v) : CellAt (w.alloc (.cells cs t)) w.heap.size o v := ⟨by simp [go_sem]; simpa using h, by simp⟩

theorem isSector_any (v : Sl) (bs : List Int) (w : World) (h : v.n = bs.length) :
    Calls Try.prog 56 #[.slice v.a v.n v.c] w fun e w' => e = .returned (.bool (isSec bs)) ∧ w = w' := by
  rw [h]
  go_enter Try.func56, Try.ntmps56
  go_wp2_with fail
  go_ret
  refine ⟨ret_bool ?_, rfl⟩
  unfold isSec
  rw [Bool.eq_iff_iff]
  simp
  omega
theorem badS_any (v : Sl) (bs : List Int) (w : World) (h : v.n = bs.length) :
    Calls Try.prog 59 #[.slice v.a v.n v.c] w fun e w' => e = .returned (.bool (!isSec bs)) ∧ Below w.heap.size w w' := by
  obtain ⟨A, n, c⟩ := v
  simp only at h
  subst h
  go_enter Try.func59, Try.ntmps59
  go_wp2_with fail
  refine (isSector_any ⟨A, bs.length, c⟩ bs _ rfl).mono ?_
  rintro e w1 ⟨rfl, rfl⟩
  go_wp2_with fail
  go_ret
  exact ⟨rfl, Below.refl _ _⟩
set_option maxHeartbeats 2000000 in
theorem badW_any (p : Int × List Int) (v : Sl) (n g : Nat) (w : World) (h : v.n = p.2.length) (hg : CellAt w g 0 (.int .i64 n)) :
    Calls Try.prog 55 #[.agg #[.int .i64 p.1, .slice v.a v.n v.c], .pointer (some ⟨g, 0, none⟩)] w fun e w' => e = .returned (.bool (badW n p)) ∧ Below w.heap.size w w' := by
  obtain ⟨x, bs⟩ := p
  obtain ⟨A, m, c⟩ := v
  simp only at h ⊢
  subst h
  obtain ⟨g0, gz⟩ := hg
  have HS : Hid (badW n (x, bs) = (decide (x < 0) || (decide ((n : Int) ≤ x) || !isSec bs))) := Lib.hid rfl
  cases h1 : decide (x < 0)
  · cases h2 : decide ((n : Int) ≤ x)
    · go_enter Try.func55, Try.ntmps55
      go_wp2_with fail
      refine (isSector_any ⟨A, bs.length, c⟩ bs _ rfl).mono ?_
      rintro e w1 ⟨rfl, rfl⟩
      go_wp2_with fail
      go_ret
      exact ⟨ret_bool (by rw [HS.out, h1, h2]; rfl), by go_grown⟩
    · go_enter Try.func55, Try.ntmps55
      go_wp2_with fail
      go_ret
      exact ⟨ret_bool (by rw [HS.out, h1, h2]; rfl), by go_grown⟩
  · go_enter Try.func55, Try.ntmps55
    go_wp2_with fail
    go_ret
    exact ⟨ret_bool (by rw [HS.out, h1]; rfl), by go_grown⟩

set_option maxHeartbeats 2000000 in
theorem indexW_any {P : Nat → Prop} (p : (Int × List Int) → Bool) (g : Nat) (fr : Array Value) (xs : List (Int × List Int)) (s : Sl) (w : World)
    (hf : ∀ (x : (Int × List Int)) (v : Sl) (W : World), Below w.heap.size w W → By W P v x.2 → Calls Try.prog g (#[.agg #[.int .i64 x.1, .slice v.a v.n v.c]] ++ fr) W fun e W' => e = .returned (.bool (p x)) ∧ Below W.heap.size W W')
    (hg : ∀ (args : Array Value) (W : World), Sem.run Try.prog (callFunc g args) W = .ok (.enter g args) W)
    (hx : Pe w P s xs) :
    Calls Try.prog 70 #[.slice s.a s.n s.c, .func (.func g) #[] fr] w fun e w' => (∃ m : Int, e = .returned (.int .i64 m) ∧ decide (0 ≤ m) = xs.any p) ∧ Below w.heap.size w w' := by
  have hl : xs.length ≤ 9223372036854775807 := by
    obtain ⟨vs, h1, h2, _⟩ := hx
    have a := h1.1
    have b := h1.2.1
    have c := h1.2.2.1
    unfold maxLen at c
    omega
  have hn := hx.len
  obtain ⟨A, n, c⟩ := s
  simp only at hn
  subst hn
  have HF := Lib.hid hf
  have HX := Lib.hid hx
  clear hf hx
  simp only
  go_enter Try.func70, Try.ntmps70
  go_wp2_with fail
  go_loopw [8] (fun i wr => ∃ k : Nat, k ≤ xs.length ∧ i = .int .i64 k ∧ (∀ j (h : j < xs.length), j < k → p xs[j] = false) ∧ Below w.heap.size w wr) (fun i _ => xs.length - (intOf i).toNat)
  case atStart => exact ⟨0, Nat.zero_le _, rfl, fun _ _ h => absurd h (by omega), Below.refl _ _⟩
  case round =>
    obtain ⟨k, hk, rfl, hno, hB⟩ := hrel
    have HNO := Lib.hid hno
    clear hno
    by_cases hlt : k < xs.length
    · obtain ⟨bb, off, v, x, ha, hbl, hxk, hby, c0, c1⟩ := (HX.out.step hB).at_ hlt
      simp only at ha
      subst ha
      have HXK := Lib.hid hxk
      have HBY := Lib.hid hby
      have HB := Lib.hid hB
      clear hxk hB hby
      cases hp : p x
      · have HP := Lib.hid hp
        clear hp
        go_wp2_with fail
        refine (HF.out x v _ HB.out HBY.out).mono ?_
        rw [HP.out]
        rintro e w1 ⟨rfl, hb1⟩
        go_wp2_with fail
        go_roundw
        case rel => exact ⟨k + 1, by omega, by go_num, step_no HNO.out HXK.out HP.out, HB.out.trans (hb1.mono HB.out.size)⟩
        case measure => simp [intOf]; omega
      · have HP := Lib.hid hp
        clear hp
        go_wp2_with fail
        refine (HF.out x v _ HB.out HBY.out).mono ?_
        rw [HP.out]
        rintro e w1 ⟨rfl, hb1⟩
        go_wp2_with fail
        go_ret
        exact ⟨⟨_, rfl, by rw [any_true HXK.out HP.out]; simp⟩, HB.out.trans (hb1.mono HB.out.size)⟩
    · obtain rfl : k = xs.length := by omega
      have HA : Hid (xs.any p = false) := Lib.hid (any_false (fun j hj => HNO.out j hj hj))
      go_wp2_with fail
      go_ret
      exact ⟨⟨_, rfl, by rw [HA.out]; decide⟩, hB⟩

theorem containsW_any {P : Nat → Prop} (p : (Int × List Int) → Bool) (g : Nat) (fr : Array Value) (xs : List (Int × List Int)) (s : Sl) (w : World)
    (hf : ∀ (x : (Int × List Int)) (v : Sl) (W : World), Below w.heap.size w W → By W P v x.2 → Calls Try.prog g (#[.agg #[.int .i64 x.1, .slice v.a v.n v.c]] ++ fr) W fun e W' => e = .returned (.bool (p x)) ∧ Below W.heap.size W W')
    (hg : ∀ (args : Array Value) (W : World), Sem.run Try.prog (callFunc g args) W = .ok (.enter g args) W)
    (hx : Pe w P s xs) :
    Calls Try.prog 57 #[.slice s.a s.n s.c, .func (.func g) #[] fr] w fun e w' => e = .returned (.bool (xs.any p)) ∧ Below w.heap.size w w' := by
  go_enter Try.func57, Try.ntmps57
  go_wp2_with fail
  refine (indexW_any p g fr xs s _ hf hg hx).mono ?_
  rintro e w1 ⟨⟨m, rfl, hm⟩, hb1⟩
  have HM := Lib.hid hm
  clear hm
  go_wp2_with fail
  go_ret
  exact ⟨ret_bool HM.out, hb1⟩

set_option maxHeartbeats 2000000 in
theorem indexS_any {P : Nat → Prop} (p : (List Int) → Bool) (g : Nat) (fr : Array Value) (xs : List (List Int)) (s : Sl) (w : World)
    (hf : ∀ (x : (List Int)) (v : Sl) (W : World), Below w.heap.size w W → By W P v x → Calls Try.prog g (#[.slice v.a v.n v.c] ++ fr) W fun e W' => e = .returned (.bool (p x)) ∧ Below W.heap.size W W')
    (hg : ∀ (args : Array Value) (W : World), Sem.run Try.prog (callFunc g args) W = .ok (.enter g args) W)
    (hx : Se w P s xs) :
    Calls Try.prog 71 #[.slice s.a s.n s.c, .func (.func g) #[] fr] w fun e w' => (∃ m : Int, e = .returned (.int .i64 m) ∧ decide (0 ≤ m) = xs.any p) ∧ Below w.heap.size w w' := by
  have hl : xs.length ≤ 9223372036854775807 := by
    obtain ⟨vs, h1, h2, _⟩ := hx
    have a := h1.1
    have b := h1.2.1
    have c := h1.2.2.1
    unfold maxLen at c
    omega
  have hn := hx.len
  obtain ⟨A, n, c⟩ := s
  simp only at hn
  subst hn
  have HF := Lib.hid hf
  have HX := Lib.hid hx
  clear hf hx
  simp only
  go_enter Try.func71, Try.ntmps71
  go_wp2_with fail
  go_loopw [8] (fun i wr => ∃ k : Nat, k ≤ xs.length ∧ i = .int .i64 k ∧ (∀ j (h : j < xs.length), j < k → p xs[j] = false) ∧ Below w.heap.size w wr) (fun i _ => xs.length - (intOf i).toNat)
  case atStart => exact ⟨0, Nat.zero_le _, rfl, fun _ _ h => absurd h (by omega), Below.refl _ _⟩
  case round =>
    obtain ⟨k, hk, rfl, hno, hB⟩ := hrel
    have HNO := Lib.hid hno
    clear hno
    by_cases hlt : k < xs.length
    · obtain ⟨bb, off, v, x, ha, hbl, hxk, hby, c0⟩ := (HX.out.step hB).at_ hlt
      simp only at ha
      subst ha
      have HXK := Lib.hid hxk
      have HBY := Lib.hid hby
      have HB := Lib.hid hB
      clear hxk hB hby
      cases hp : p x
      · have HP := Lib.hid hp
        clear hp
        go_wp2_with fail
        refine (HF.out x v _ HB.out HBY.out).mono ?_
        rw [HP.out]
        rintro e w1 ⟨rfl, hb1⟩
        go_wp2_with fail
        go_roundw
        case rel => exact ⟨k + 1, by omega, by go_num, step_no HNO.out HXK.out HP.out, HB.out.trans (hb1.mono HB.out.size)⟩
        case measure => simp [intOf]; omega
      · have HP := Lib.hid hp
        clear hp
        go_wp2_with fail
        refine (HF.out x v _ HB.out HBY.out).mono ?_
        rw [HP.out]
        rintro e w1 ⟨rfl, hb1⟩
        go_wp2_with fail
        go_ret
        exact ⟨⟨_, rfl, by rw [any_true HXK.out HP.out]; simp⟩, HB.out.trans (hb1.mono HB.out.size)⟩
    · obtain rfl : k = xs.length := by omega
      have HA : Hid (xs.any p = false) := Lib.hid (any_false (fun j hj => HNO.out j hj hj))
      go_wp2_with fail
      go_ret
      exact ⟨⟨_, rfl, by rw [HA.out]; decide⟩, hB⟩

theorem containsS_any {P : Nat → Prop} (p : (List Int) → Bool) (g : Nat) (fr : Array Value) (xs : List (List Int)) (s : Sl) (w : World)
    (hf : ∀ (x : (List Int)) (v : Sl) (W : World), Below w.heap.size w W → By W P v x → Calls Try.prog g (#[.slice v.a v.n v.c] ++ fr) W fun e W' => e = .returned (.bool (p x)) ∧ Below W.heap.size W W')
    (hg : ∀ (args : Array Value) (W : World), Sem.run Try.prog (callFunc g args) W = .ok (.enter g args) W)
    (hx : Se w P s xs) :
    Calls Try.prog 58 #[.slice s.a s.n s.c, .func (.func g) #[] fr] w fun e w' => e = .returned (.bool (xs.any p)) ∧ Below w.heap.size w w' := by
  go_enter Try.func58, Try.ntmps58
  go_wp2_with fail
  refine (indexS_any p g fr xs s _ hf hg hx).mono ?_
  rintro e w1 ⟨⟨m, rfl, hm⟩, hb1⟩
  have HM := Lib.hid hm
  clear hm
  go_wp2_with fail
  go_ret
  exact ⟨ret_bool HM.out, hb1⟩

theorem checkD_no {d : Dk} (h : validD d = false) : checkD d = 450 := by simp [checkD, h]
theorem checkD_yes {d : Dk} (h : validD d = true) : checkD d = 0 := by simp [checkD, h]
theorem valid_sizes {d : Dk} (h : sizesOk d = false) : validD d = false := by simp [validD, h]
/-- which of the sizes is wrong -/
theorem sizes_ways {d : Dk} : (sizesOk d = false ∧ (decide ((d.secs.length : Int) < 1) = true ∨ (decide ((d.secs.length : Int) < 1) = false ∧ decide ((4096 : Int) < (d.secs.length : Int)) = true) ∨
      (decide ((d.secs.length : Int) < 1) = false ∧ decide ((4096 : Int) < (d.secs.length : Int)) = false ∧ decide ((4096 : Int) < (d.pend.length : Int)) = true) ∨
      (decide ((d.secs.length : Int) < 1) = false ∧ decide ((4096 : Int) < (d.secs.length : Int)) = false ∧ decide ((4096 : Int) < (d.pend.length : Int)) = false ∧ decide (d.left < -1) = true) ∨
      (decide ((d.secs.length : Int) < 1) = false ∧ decide ((4096 : Int) < (d.secs.length : Int)) = false ∧ decide ((4096 : Int) < (d.pend.length : Int)) = false ∧ decide (d.left < -1) = false ∧ decide ((65536 : Int) < d.left) = true))) ∨
    (sizesOk d = true ∧ decide ((d.secs.length : Int) < 1) = false ∧ decide ((4096 : Int) < (d.secs.length : Int)) = false ∧ decide ((4096 : Int) < (d.pend.length : Int)) = false ∧ decide (d.left < -1) = false ∧ decide ((65536 : Int) < d.left) = false) := by
  cases h : sizesOk d
  · left
    simp [sizesOk] at h ⊢
    omega
  · right
    simp [sizesOk] at h ⊢
    omega

set_option maxRecDepth 100000 in
set_option maxHeartbeats 4000000 in
theorem Check_any {P : Nat → Prop} (d : Dk) (sv pv : Sl) (w : World) (h : Di w P sv pv d) :
    Calls Try.prog 31 #[dkV sv pv d] w fun e w' => e = .returned (.int .i64 (checkD d)) ∧ Below w.heap.size w w' := by
  have hs := h.1.len
  have hp := h.2.len
  have HD := Lib.hid h
  clear h
  obtain ⟨A, n, c⟩ := sv
  obtain ⟨D, m, c2⟩ := pv
  simp only at hs hp
  subst hs hp
  unfold dkV
  simp only
  rcases sizes_ways (d := d) with ⟨hsz, hw⟩ | ⟨hsz, d1, d2, d3, d4, d5⟩
  · rw [checkD_no (valid_sizes hsz)]
    clear hsz
    rcases hw with d1 | ⟨d1, d2⟩ | ⟨d1, d2, d3⟩ | ⟨d1, d2, d3, d4⟩ | ⟨d1, d2, d3, d4, d5⟩
    all_goals
      go_enter Try.func31, Try.ntmps31
      go_wp2_with fail
      go_ret
      exact ⟨rfl, by go_grown⟩
  · have pre : ∀ W, Below w.heap.size w W → CellAt W (w.heap.size + 1) 0 (.int .i64 (d.secs.length : Nat)) → ∀ (x : Int × List Int) (v : Sl) (W' : World), Below W.heap.size W W' → By W' P v x.2 → Calls Try.prog 55 (#[.agg #[.int .i64 x.1, .slice v.a v.n v.c]] ++ #[.pointer (some ⟨w.heap.size + 1, 0, none⟩)]) W' fun e w' => e = .returned (.bool (badW d.secs.length x)) ∧ Below W'.heap.size W' w' :=
      fun W hW hc x v W' hW' hb => badW_any x v d.secs.length (w.heap.size + 1) W' hb.1.1 (hc.step hW')
    have PRE := Lib.hid pre
    clear pre
    cases hpb : d.pend.any (badW d.secs.length)
    · cases hsb : d.secs.any (fun b => !isSec b)
      · rw [checkD_yes (by simp [validD, hsz, hpb, hsb])]
        have HP := Lib.hid hpb
        have HS := Lib.hid hsb
        clear hpb hsb hsz
        go_enter Try.func31, Try.ntmps31
        go_wp2_with fail
        refine (containsW_any (P := P) (badW d.secs.length) 55 #[.pointer (some ⟨w.heap.size + 1, 0, none⟩)] d.pend ⟨D, d.pend.length, c2⟩ _ ?hf (enters_of Try.func55 (by kernel_rfl) rfl) ?hx).mono ?_
        case hf => exact PRE.out _ (((Below.refl _ _).alloc (Nat.le_refl _) _).alloc (by simp) _) (by have := cell_here (w.alloc (.cells #[.slice A d.secs.length c, .slice D d.pend.length c2, .int .i64 d.left, .bool d.stopped] 25)) #[.int .i64 (d.secs.length : Nat)] 3 0 _ rfl; simpa using this)
        case hx => exact (HD.out.step (((Below.refl _ _).alloc (Nat.le_refl _) _).alloc (by simp) _)).2
        rw [HP.out]
        rintro e w1 ⟨rfl, hb1⟩
        have hb1' : Below (w.heap.size + 1) (w.alloc (.cells #[.slice A d.secs.length c, .slice D d.pend.length c2, .int .i64 d.left, .bool d.stopped] 25)) w1 := ((Below.refl _ _).alloc (by simp) _).trans (hb1.mono (by simp <;> omega))
        obtain ⟨c0, cz⟩ := CellAt.new w.heap.size rfl hb1' (by simp) 0 _ rfl
        have G1 : Hid (Below w.heap.size w w1) := Lib.hid ((((Below.refl _ _).alloc (Nat.le_refl _) _).alloc (by simp) _).trans (hb1.mono (by simp <;> omega)))
        clear hb1 hb1'
        go_wp2_with fail
        refine (containsS_any (P := P) (fun b => !isSec b) 59 #[] d.secs ⟨A, d.secs.length, c⟩ _ (fun x v W _ hb => badS_any v x W hb.1.1) (enters_of Try.func59 (by kernel_rfl) rfl) ((HD.out.step G1.out).1)).mono ?_
        rw [HS.out]
        rintro e w2 ⟨rfl, hb2⟩
        go_wp2_with fail
        go_ret
        exact ⟨rfl, G1.out.trans (hb2.mono G1.out.size)⟩
      · rw [checkD_no (by simp [validD, hsz, hpb, hsb])]
        have HP := Lib.hid hpb
        have HS := Lib.hid hsb
        clear hpb hsb hsz
        go_enter Try.func31, Try.ntmps31
        go_wp2_with fail
        refine (containsW_any (P := P) (badW d.secs.length) 55 #[.pointer (some ⟨w.heap.size + 1, 0, none⟩)] d.pend ⟨D, d.pend.length, c2⟩ _ ?hf (enters_of Try.func55 (by kernel_rfl) rfl) ?hx).mono ?_
        case hf => exact PRE.out _ (((Below.refl _ _).alloc (Nat.le_refl _) _).alloc (by simp) _) (by have := cell_here (w.alloc (.cells #[.slice A d.secs.length c, .slice D d.pend.length c2, .int .i64 d.left, .bool d.stopped] 25)) #[.int .i64 (d.secs.length : Nat)] 3 0 _ rfl; simpa using this)
        case hx => exact (HD.out.step (((Below.refl _ _).alloc (Nat.le_refl _) _).alloc (by simp) _)).2
        rw [HP.out]
        rintro e w1 ⟨rfl, hb1⟩
        have hb1' : Below (w.heap.size + 1) (w.alloc (.cells #[.slice A d.secs.length c, .slice D d.pend.length c2, .int .i64 d.left, .bool d.stopped] 25)) w1 := ((Below.refl _ _).alloc (by simp) _).trans (hb1.mono (by simp <;> omega))
        obtain ⟨c0, cz⟩ := CellAt.new w.heap.size rfl hb1' (by simp) 0 _ rfl
        have G1 : Hid (Below w.heap.size w w1) := Lib.hid ((((Below.refl _ _).alloc (Nat.le_refl _) _).alloc (by simp) _).trans (hb1.mono (by simp <;> omega)))
        clear hb1 hb1'
        go_wp2_with fail
        refine (containsS_any (P := P) (fun b => !isSec b) 59 #[] d.secs ⟨A, d.secs.length, c⟩ _ (fun x v W _ hb => badS_any v x W hb.1.1) (enters_of Try.func59 (by kernel_rfl) rfl) ((HD.out.step G1.out).1)).mono ?_
        rw [HS.out]
        rintro e w2 ⟨rfl, hb2⟩
        go_wp2_with fail
        go_ret
        exact ⟨rfl, G1.out.trans (hb2.mono G1.out.size)⟩
    · rw [checkD_no (by simp [validD, hpb])]
      have HP := Lib.hid hpb
      clear hpb hsz
      go_enter Try.func31, Try.ntmps31
      go_wp2_with fail
      refine (containsW_any (P := P) (badW d.secs.length) 55 #[.pointer (some ⟨w.heap.size + 1, 0, none⟩)] d.pend ⟨D, d.pend.length, c2⟩ _ ?hf (enters_of Try.func55 (by kernel_rfl) rfl) ?hx).mono ?_
      case hf => exact PRE.out _ (((Below.refl _ _).alloc (Nat.le_refl _) _).alloc (by simp) _) (by have := cell_here (w.alloc (.cells #[.slice A d.secs.length c, .slice D d.pend.length c2, .int .i64 d.left, .bool d.stopped] 25)) #[.int .i64 (d.secs.length : Nat)] 3 0 _ rfl; simpa using this)
      case hx => exact (HD.out.step (((Below.refl _ _).alloc (Nat.le_refl _) _).alloc (by simp) _)).2
      rw [HP.out]
      rintro e w1 ⟨rfl, hb1⟩
      go_wp2_with fail
      go_ret
      exact ⟨rfl, (((Below.refl _ _).alloc (Nat.le_refl _) _).alloc (by simp) _).trans (hb1.mono (by simp <;> omega))⟩

theorem runs_any {P : Nat → Prop} (d : Dk) (sv pv : Sl) (w : World) (h : Di w P sv pv d) :
    Calls Try.prog 50 #[dkV sv pv d] w fun e w' => e = .returned (.bool (runsD d)) ∧ Below w.heap.size w w' := by
  have HD := Lib.hid h
  clear h
  cases hv : validD d
  · have HC := Lib.hid (checkD_no hv)
    have HR : Hid (runsD d = false) := Lib.hid (by simp [runsD, hv])
    clear hv
    unfold dkV
    go_enter Try.func50, Try.ntmps50
    go_wp2_with fail
    refine (Check_any d sv pv _ (HD.out.step ((Below.refl _ _).alloc (Nat.le_refl _) _))).mono ?_
    rw [HC.out]
    rintro e w1 ⟨rfl, hb1⟩
    go_wp2_with fail
    go_ret
    exact ⟨ret_bool HR.out.symm, ((Below.refl _ _).alloc (Nat.le_refl _) _).trans (hb1.mono (by simp))⟩
  · have HC := Lib.hid (checkD_yes hv)
    have HR : Hid (runsD d = !d.stopped) := Lib.hid (by simp [runsD, hv])
    clear hv
    unfold dkV
    go_enter Try.func50, Try.ntmps50
    go_wp2_with fail
    refine (Check_any d sv pv _ (HD.out.step ((Below.refl _ _).alloc (Nat.le_refl _) _))).mono ?_
    rw [HC.out]
    rintro e w1 ⟨rfl, hb1⟩
    obtain ⟨c3, cz⟩ := CellAt.new w.heap.size rfl hb1 (by simp) 3 _ rfl
    have G1 : Below w.heap.size w w1 := ((Below.refl _ _).alloc (Nat.le_refl _) _).trans (hb1.mono (by simp))
    clear hb1
    go_wp2_with fail
    go_ret
    exact ⟨ret_bool HR.out.symm, G1⟩
theorem has_any (d : Dk) (sv pv : Sl) (x : Int) (w : World) (hn : sv.n = d.secs.length) :
    Calls Try.prog 51 #[dkV sv pv d, .int .i64 x] w fun e w' => e = .returned (.bool (hasD d x)) ∧ Below w.heap.size w w' := by
  obtain ⟨A, n, c⟩ := sv
  simp only at hn
  subst hn
  unfold dkV
  cases h1 : decide (0 ≤ x)
  all_goals
    go_enter Try.func51, Try.ntmps51
    go_wp2_with fail
    go_ret
    exact ⟨ret_bool (by simp [hasD, h1]), by go_grown⟩
end Go.Proofs.Ytgbkhmoplocmkaa
