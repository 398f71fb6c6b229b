/- Journals: how many sectors records occupy; Check, Room, of both sides. -/
import Derived.Test.YtgbkhmoplocmkaaJouC
namespace Go.Proofs.Ytgbkhmoplocmkaa
open Go.RowKit Go.Shelf
set_option linter.unusedSimpArgs false
set_option linter.unusedVariables false
set_option maxRecDepth 20000

/-- how many sectors so many bytes occupy -/
def sectN (n : Nat) : Int := max 1 (wrap64 ((wrap64 (wrap64 ((n : Int) + 112) - 1)).tdiv 112))
def usedR (rs : List (List Int)) : Int := rs.foldl (fun u b => wrap64 (u + sectN b.length)) 0
theorem usedR_snoc {rs : List (List Int)} {k : Nat} {x : List Int} (h : rs[k]? = some x) : usedR (rs.take (k + 1)) = wrap64 (usedR (rs.take k) + sectN x.length) := foldl_take_succ _ _ h

theorem sectors_any (v : Sl) (n : Nat) (w : World) (h : v.n = n) (hn : n ≤ 9223372036854775807) :
    Calls Try.prog 35 #[.slice v.a v.n v.c] w fun e w' => e = .returned (.int .i64 (sectN n)) ∧ w = w' := by
  subst h
  obtain ⟨A, n, c⟩ := v
  simp only at hn ⊢
  go_enter Try.func35, Try.ntmps35
  go_wp2_with fail
  all_goals
    go_ret
    exact ⟨ret_int (by unfold sectN; omega), rfl⟩

theorem Se.le {P : Nat → Prop} {w : World} {s : Sl} {ss : List (List Int)} (h : Se w P s ss) : ss.length ≤ 9223372036854775807 := by
  obtain ⟨vs, h1, h2, _⟩ := h
  have := h1.le
  omega
set_option maxHeartbeats 1000000 in
theorem used_any {P : Nat → Prop} (v : Sl) (rs : List (List Int)) (w : World) (h : Se w P v rs) :
    Calls Try.prog 36 #[.slice v.a v.n v.c] w fun e w' => e = .returned (.int .i64 (usedR rs)) ∧ w = w' := by
  have hl := h.len
  have hle := h.le
  obtain ⟨A, n, c⟩ := v
  simp only at hl ⊢
  subst hl
  have HB := Lib.hid h
  clear h
  go_enter Try.func36, Try.ntmps36
  go_wp2_with fail
  go_loopw [2, 7] (fun n i wr => ∃ k : Nat, k ≤ rs.length ∧ i = .int .i64 k ∧ n = .int .i64 (usedR (rs.take k)) ∧ w = wr) (fun n i _ => rs.length - (intOf i).toNat)
  case atStart => exact ⟨0, Nat.zero_le _, rfl, rfl, rfl⟩
  case round =>
    obtain ⟨k, hk, rfl, rfl, rfl⟩ := hrel
    by_cases hlt : k < rs.length
    · obtain ⟨b, off, u, x, ha, hbl, hxk, hby, hc⟩ := HB.out.at_ hlt
      simp only at ha
      subst ha
      obtain ⟨m, hm⟩ : ∃ m, m = usedR (rs.take k) := ⟨_, rfl⟩
      rw [← hm]
      have HM := Lib.hid hm
      have HX := Lib.hid hxk
      have HY := Lib.hid hby
      clear hm hxk hby
      go_wp2_with fail
      refine (sectors_any u x.length _ HY.out.1.1 HY.out.le).mono ?_
      rintro e w1 ⟨rfl, rfl⟩
      obtain ⟨q, hq⟩ : ∃ q, q = sectN x.length := ⟨_, rfl⟩
      rw [← hq]
      have HQ := Lib.hid hq
      clear hq
      go_wp2_with fail
      go_roundw
      case rel => exact ⟨k + 1, by omega, by go_num, by rw [usedR_snoc HX.out, ← HM.out, ← HQ.out], trivial⟩
      case measure => simp [intOf]; omega
    · obtain rfl : k = rs.length := by omega
      go_wp2_with fail
      go_ret
      exact ⟨by simp, rfl⟩

theorem RSectors_any (n : Nat) (w : World) (hn : n ≤ 9223372036854775807) :
    Calls Try.prog 39 #[.int .i64 n] w fun e w' => e = .returned (.int .i64 (sectN n)) ∧ w = w' := by
  go_enter Try.func39, Try.ntmps39
  go_wp2_with fail
  all_goals
    go_ret
    exact ⟨ret_int (by unfold sectN; omega), rfl⟩

set_option maxHeartbeats 1000000 in
theorem RUsed_any {P : Nat → Prop} (v : Sl) (rs : List (List Int)) (w : World) (h : Se w P v rs) :
    Calls Try.prog 40 #[.slice v.a v.n v.c] w fun e w' => e = .returned (.int .i64 (usedR rs)) ∧ w = w' := by
  have hl := h.len
  have hle := h.le
  obtain ⟨A, n, c⟩ := v
  simp only at hl ⊢
  subst hl
  have HB := Lib.hid h
  clear h
  go_enter Try.func40, Try.ntmps40
  go_wp2_with fail
  go_loopw [3, 4] (fun n i wr => ∃ k : Nat, k ≤ rs.length ∧ i = .int .i64 k ∧ n = .int .i64 (usedR (rs.take k)) ∧ w = wr) (fun n i _ => rs.length - (intOf i).toNat)
  case atStart => exact ⟨0, Nat.zero_le _, rfl, rfl, rfl⟩
  case round =>
    obtain ⟨k, hk, rfl, rfl, rfl⟩ := hrel
    by_cases hlt : k < rs.length
    · obtain ⟨b, off, ⟨A1, n1, c1⟩, x, ha, hbl, hxk, hby, hc⟩ := HB.out.at_ hlt
      simp only at ha hc
      subst ha
      obtain rfl : n1 = x.length := hby.1.1
      have hxl := hby.le
      obtain ⟨m, hm⟩ : ∃ m, m = usedR (rs.take k) := ⟨_, rfl⟩
      rw [← hm]
      have HM := Lib.hid hm
      have HX := Lib.hid hxk
      clear hm hxk hby
      go_wp2_with fail
      refine (RSectors_any x.length _ hxl).mono ?_
      rintro e w1 ⟨rfl, rfl⟩
      obtain ⟨q, hq⟩ : ∃ q, q = sectN x.length := ⟨_, rfl⟩
      rw [← hq]
      have HQ := Lib.hid hq
      clear hq
      go_wp2_with fail
      go_roundw
      case rel => exact ⟨k + 1, by omega, by go_num, by rw [usedR_snoc HX.out, ← HM.out, ← HQ.out], trivial⟩
      case measure => simp [intOf]; omega
    · obtain rfl : k = rs.length := by omega
      go_wp2_with fail
      go_ret
      exact ⟨by simp, rfl⟩

/-- a journal -/
structure Jl where
  recs : List (List Int)
  many : Int
  synced : Int
  deriving DecidableEq
def jlV (sv : Sl) (l : Jl) : Value := .agg #[.slice sv.a sv.n sv.c, .int .i64 l.many, .int .i64 l.synced]
def Jl.zero : Jl := ⟨[], 0, 0⟩
def validJ (l : Jl) : Bool := !(decide (l.many < 1) || (decide (4096 < l.many) || (decide (l.synced < 0) || (decide ((l.recs.length : Int) < l.synced) || decide (l.many < usedR l.recs)))))
def checkJ (l : Jl) : Int := if validJ l then 0 else 1
def roomJ (l : Jl) : Int := if validJ l then wrap64 (112 * wrap64 (l.many - usedR l.recs)) else 0
theorem checkJ_yes {l : Jl} (h : validJ l = true) : checkJ l = 0 := by simp [checkJ, h]
theorem checkJ_no {l : Jl} (h : validJ l = false) : checkJ l = 1 := by simp [checkJ, h]

set_option maxHeartbeats 2000000 in
theorem JCheck_any {P : Nat → Prop} (l : Jl) (sv : Sl) (w : World) (h : Se w P sv l.recs) :
    Calls Try.prog 17 #[jlV sv l] w fun e w' => e = .returned (.int .i64 (checkJ l)) ∧ Below w.heap.size w w' := by
  have hl := h.len
  have hle := h.le
  obtain ⟨A, n, c⟩ := sv
  obtain ⟨rs, m, y⟩ := l
  simp only at hl hle h
  subst hl
  have HU : Hid (∀ WC, Below (w.alloc (.cells #[.slice A rs.length c, .int .i64 m, .int .i64 y] 29)).heap.size (w.alloc (.cells #[.slice A rs.length c, .int .i64 m, .int .i64 y] 29)) WC → Calls Try.prog 36 #[.slice A rs.length c] WC fun e w' => e = .returned (.int .i64 (usedR rs)) ∧ WC = w') := Lib.hid (fun WC hWC => used_any ⟨A, rs.length, c⟩ rs WC (h.step (((Below.refl _ _).alloc (Nat.le_refl _) _).trans (hWC.mono (by simp)))))
  have HG : Hid (Below w.heap.size w (w.alloc (.cells #[.slice A rs.length c, .int .i64 m, .int .i64 y] 29))) := Lib.hid ((Below.refl _ _).alloc (Nat.le_refl _) _)
  obtain ⟨E, hE⟩ : ∃ E, E = checkJ ⟨rs, m, y⟩ := ⟨_, rfl⟩
  rw [← hE]
  have HE := Lib.hid hE
  clear h hE
  unfold jlV
  simp only
  cases t1 : decide (m < 1)
  · cases t2 : decide (4096 < m)
    · cases t3 : decide (y < 0)
      · cases t4 : decide ((rs.length : Int) < y)
        · obtain ⟨u, hu⟩ : ∃ u, u = usedR rs := ⟨_, rfl⟩
          have HQ := Lib.hid hu
          clear hu
          cases t5 : decide (m < u)
          · have HV : Hid (E = 0) := Lib.hid (by rw [HE.out]; rw [HQ.out] at t5; simp [checkJ, validJ, t1, t2, t3, t4, t5])
            obtain rfl : E = 0 := HV.out
            clear HV HE
            go_enter Try.func17, Try.ntmps17
            go_wp2_with fail
            refine wp_region_below (by kernel_rfl) (by kernel_rfl) ?_
            repeat (first
              | go_big_quiet_skip
              | (go_big_quiet_want
                 first
                   | (apply quiet_val
                      focus (
                        intro WC hWC
                        obtain ⟨hcc0, hff0⟩ := bcell hWC
                        go_simp
                        all_goals rfl
                        done)
                      go_simp
                      go_big_quiet_on)
                   | (apply quiet_call
                      focus (
                        intro WC hWC
                        go_simp
                        all_goals (first | rfl | exact ⟨rfl, rfl⟩)
                        done)
                      focus (
                        intro WC hWC
                        exact (HU.out WC hWC).mono fun e w' h => ⟨h.1.trans (by rw [← HQ.out]), h.2 ▸ hWC⟩
                        done)
                      go_simp
                      go_big_quiet_on)))
            refine wpQuiet_nil ?_
            intro w2 hw2
            go_wp2_with fail
            go_ret
            exact ⟨rfl, HG.out.trans (hw2.mono (by simp))⟩
          · have HV : Hid (E = 1) := Lib.hid (by rw [HE.out]; rw [HQ.out] at t5; simp [checkJ, validJ, t1, t2, t3, t4, t5])
            obtain rfl : E = 1 := HV.out
            clear HV HE
            go_enter Try.func17, Try.ntmps17
            go_wp2_with fail
            refine wp_region_below (by kernel_rfl) (by kernel_rfl) ?_
            repeat (first
              | go_big_quiet_skip
              | (go_big_quiet_want
                 first
                   | (apply quiet_val
                      focus (
                        intro WC hWC
                        obtain ⟨hcc0, hff0⟩ := bcell hWC
                        go_simp
                        all_goals rfl
                        done)
                      go_simp
                      go_big_quiet_on)
                   | (apply quiet_call
                      focus (
                        intro WC hWC
                        go_simp
                        all_goals (first | rfl | exact ⟨rfl, rfl⟩)
                        done)
                      focus (
                        intro WC hWC
                        exact (HU.out WC hWC).mono fun e w' h => ⟨h.1.trans (by rw [← HQ.out]), h.2 ▸ hWC⟩
                        done)
                      go_simp
                      go_big_quiet_on)))
            refine wpQuiet_nil ?_
            intro w2 hw2
            go_wp2_with fail
            go_ret
            exact ⟨rfl, HG.out.trans (hw2.mono (by simp))⟩
        · have HV : Hid (E = 1) := Lib.hid (by rw [HE.out]; simp [checkJ, validJ, t1, t2, t3, t4])
          obtain rfl : E = 1 := HV.out
          clear HV HE
          go_enter Try.func17, Try.ntmps17
          go_wp2_with fail
          refine wp_region_below (by kernel_rfl) (by kernel_rfl) ?_
          repeat (first
            | go_big_quiet_skip
            | (go_big_quiet_want
               first
                 | (apply quiet_val
                    focus (
                      intro WC hWC
                      obtain ⟨hcc0, hff0⟩ := bcell hWC
                      go_simp
                      all_goals rfl
                      done)
                    go_simp
                    go_big_quiet_on)))
          refine wpQuiet_nil ?_
          intro w2 hw2
          go_wp2_with fail
          go_ret
          exact ⟨rfl, HG.out.trans (hw2.mono (by simp))⟩
      · have HV : Hid (E = 1) := Lib.hid (by rw [HE.out]; simp [checkJ, validJ, t1, t2, t3])
        obtain rfl : E = 1 := HV.out
        clear HV HE
        go_enter Try.func17, Try.ntmps17
        go_wp2_with fail
        refine wp_region_below (by kernel_rfl) (by kernel_rfl) ?_
        repeat (first
          | go_big_quiet_skip
          | (go_big_quiet_want
             first
               | (apply quiet_val
                  focus (
                    intro WC hWC
                    obtain ⟨hcc0, hff0⟩ := bcell hWC
                    go_simp
                    all_goals rfl
                    done)
                  go_simp
                  go_big_quiet_on)))
        refine wpQuiet_nil ?_
        intro w2 hw2
        go_wp2_with fail
        go_ret
        exact ⟨rfl, HG.out.trans (hw2.mono (by simp))⟩
    · have HV : Hid (E = 1) := Lib.hid (by rw [HE.out]; simp [checkJ, validJ, t1, t2])
      obtain rfl : E = 1 := HV.out
      clear HV HE
      go_enter Try.func17, Try.ntmps17
      go_wp2_with fail
      refine wp_region_below (by kernel_rfl) (by kernel_rfl) ?_
      repeat (first
        | go_big_quiet_skip
        | (go_big_quiet_want
           first
             | (apply quiet_val
                focus (
                  intro WC hWC
                  obtain ⟨hcc0, hff0⟩ := bcell hWC
                  go_simp
                  all_goals rfl
                  done)
                go_simp
                go_big_quiet_on)))
      refine wpQuiet_nil ?_
      intro w2 hw2
      go_wp2_with fail
      go_ret
      exact ⟨rfl, HG.out.trans (hw2.mono (by simp))⟩
  · have HV : Hid (E = 1) := Lib.hid (by rw [HE.out]; simp [checkJ, validJ, t1])
    obtain rfl : E = 1 := HV.out
    clear HV HE
    go_enter Try.func17, Try.ntmps17
    go_wp2_with fail
    refine wp_region_below (by kernel_rfl) (by kernel_rfl) ?_
    repeat (first
      | go_big_quiet_skip
      | (go_big_quiet_want
         first
           | (apply quiet_val
              focus (
                intro WC hWC
                obtain ⟨hcc0, hff0⟩ := bcell hWC
                go_simp
                all_goals rfl
                done)
              go_simp
              go_big_quiet_on)))
    refine wpQuiet_nil ?_
    intro w2 hw2
    go_wp2_with fail
    go_ret
    exact ⟨rfl, HG.out.trans (hw2.mono (by simp))⟩

set_option maxHeartbeats 2000000 in
theorem RJCheck_any {P : Nat → Prop} (l : Jl) (sv : Sl) (w : World) (h : Se w P sv l.recs) :
    Calls Try.prog 18 #[jlV sv l] w fun e w' => e = .returned (.int .i64 (checkJ l)) ∧ Below w.heap.size w w' := by
  have hl := h.len
  have hle := h.le
  obtain ⟨A, n, c⟩ := sv
  obtain ⟨rs, m, y⟩ := l
  simp only at hl hle h
  subst hl
  have HU : Hid (∀ WC, Below (w.alloc (.cells #[.slice A rs.length c, .int .i64 m, .int .i64 y] 29)).heap.size (w.alloc (.cells #[.slice A rs.length c, .int .i64 m, .int .i64 y] 29)) WC → Calls Try.prog 40 #[.slice A rs.length c] WC fun e w' => e = .returned (.int .i64 (usedR rs)) ∧ WC = w') := Lib.hid (fun WC hWC => RUsed_any ⟨A, rs.length, c⟩ rs WC (h.step (((Below.refl _ _).alloc (Nat.le_refl _) _).trans (hWC.mono (by simp)))))
  have HG : Hid (Below w.heap.size w (w.alloc (.cells #[.slice A rs.length c, .int .i64 m, .int .i64 y] 29))) := Lib.hid ((Below.refl _ _).alloc (Nat.le_refl _) _)
  obtain ⟨E, hE⟩ : ∃ E, E = checkJ ⟨rs, m, y⟩ := ⟨_, rfl⟩
  rw [← hE]
  have HE := Lib.hid hE
  clear h hE
  unfold jlV
  simp only
  cases t1 : decide (m < 1)
  · cases t2 : decide (4096 < m)
    · cases t3 : decide (y < 0)
      · cases t4 : decide ((rs.length : Int) < y)
        · obtain ⟨u, hu⟩ : ∃ u, u = usedR rs := ⟨_, rfl⟩
          have HQ := Lib.hid hu
          clear hu
          cases t5 : decide (m < u)
          · have HV : Hid (E = 0) := Lib.hid (by rw [HE.out]; rw [HQ.out] at t5; simp [checkJ, validJ, t1, t2, t3, t4, t5])
            obtain rfl : E = 0 := HV.out
            clear HV HE
            go_enter Try.func18, Try.ntmps18
            go_wp2_with fail
            refine wp_region_below (by kernel_rfl) (by kernel_rfl) ?_
            repeat (first
              | go_big_quiet_skip
              | (go_big_quiet_want
                 first
                   | (apply quiet_val
                      focus (
                        intro WC hWC
                        obtain ⟨hcc0, hff0⟩ := bcell hWC
                        go_simp
                        all_goals rfl
                        done)
                      go_simp
                      go_big_quiet_on)
                   | (apply quiet_call
                      focus (
                        intro WC hWC
                        go_simp
                        all_goals (first | rfl | exact ⟨rfl, rfl⟩)
                        done)
                      focus (
                        intro WC hWC
                        exact (HU.out WC hWC).mono fun e w' h => ⟨h.1.trans (by rw [← HQ.out]), h.2 ▸ hWC⟩
                        done)
                      go_simp
                      go_big_quiet_on)))
            refine wpQuiet_nil ?_
            intro w2 hw2
            go_wp2_with fail
            go_ret
            exact ⟨rfl, HG.out.trans (hw2.mono (by simp))⟩
          · have HV : Hid (E = 1) := Lib.hid (by rw [HE.out]; rw [HQ.out] at t5; simp [checkJ, validJ, t1, t2, t3, t4, t5])
            obtain rfl : E = 1 := HV.out
            clear HV HE
            go_enter Try.func18, Try.ntmps18
            go_wp2_with fail
            refine wp_region_below (by kernel_rfl) (by kernel_rfl) ?_
            repeat (first
              | go_big_quiet_skip
              | (go_big_quiet_want
                 first
                   | (apply quiet_val
                      focus (
                        intro WC hWC
                        obtain ⟨hcc0, hff0⟩ := bcell hWC
                        go_simp
                        all_goals rfl
                        done)
                      go_simp
                      go_big_quiet_on)
                   | (apply quiet_call
                      focus (
                        intro WC hWC
                        go_simp
                        all_goals (first | rfl | exact ⟨rfl, rfl⟩)
                        done)
                      focus (
                        intro WC hWC
                        exact (HU.out WC hWC).mono fun e w' h => ⟨h.1.trans (by rw [← HQ.out]), h.2 ▸ hWC⟩
                        done)
                      go_simp
                      go_big_quiet_on)))
            refine wpQuiet_nil ?_
            intro w2 hw2
            go_wp2_with fail
            go_ret
            exact ⟨rfl, HG.out.trans (hw2.mono (by simp))⟩
        · have HV : Hid (E = 1) := Lib.hid (by rw [HE.out]; simp [checkJ, validJ, t1, t2, t3, t4])
          obtain rfl : E = 1 := HV.out
          clear HV HE
          go_enter Try.func18, Try.ntmps18
          go_wp2_with fail
          refine wp_region_below (by kernel_rfl) (by kernel_rfl) ?_
          repeat (first
            | go_big_quiet_skip
            | (go_big_quiet_want
               first
                 | (apply quiet_val
                    focus (
                      intro WC hWC
                      obtain ⟨hcc0, hff0⟩ := bcell hWC
                      go_simp
                      all_goals rfl
                      done)
                    go_simp
                    go_big_quiet_on)))
          refine wpQuiet_nil ?_
          intro w2 hw2
          go_wp2_with fail
          go_ret
          exact ⟨rfl, HG.out.trans (hw2.mono (by simp))⟩
      · have HV : Hid (E = 1) := Lib.hid (by rw [HE.out]; simp [checkJ, validJ, t1, t2, t3])
        obtain rfl : E = 1 := HV.out
        clear HV HE
        go_enter Try.func18, Try.ntmps18
        go_wp2_with fail
        refine wp_region_below (by kernel_rfl) (by kernel_rfl) ?_
        repeat (first
          | go_big_quiet_skip
          | (go_big_quiet_want
             first
               | (apply quiet_val
                  focus (
                    intro WC hWC
                    obtain ⟨hcc0, hff0⟩ := bcell hWC
                    go_simp
                    all_goals rfl
                    done)
                  go_simp
                  go_big_quiet_on)))
        refine wpQuiet_nil ?_
        intro w2 hw2
        go_wp2_with fail
        go_ret
        exact ⟨rfl, HG.out.trans (hw2.mono (by simp))⟩
    · have HV : Hid (E = 1) := Lib.hid (by rw [HE.out]; simp [checkJ, validJ, t1, t2])
      obtain rfl : E = 1 := HV.out
      clear HV HE
      go_enter Try.func18, Try.ntmps18
      go_wp2_with fail
      refine wp_region_below (by kernel_rfl) (by kernel_rfl) ?_
      repeat (first
        | go_big_quiet_skip
        | (go_big_quiet_want
           first
             | (apply quiet_val
                focus (
                  intro WC hWC
                  obtain ⟨hcc0, hff0⟩ := bcell hWC
                  go_simp
                  all_goals rfl
                  done)
                go_simp
                go_big_quiet_on)))
      refine wpQuiet_nil ?_
      intro w2 hw2
      go_wp2_with fail
      go_ret
      exact ⟨rfl, HG.out.trans (hw2.mono (by simp))⟩
  · have HV : Hid (E = 1) := Lib.hid (by rw [HE.out]; simp [checkJ, validJ, t1])
    obtain rfl : E = 1 := HV.out
    clear HV HE
    go_enter Try.func18, Try.ntmps18
    go_wp2_with fail
    refine wp_region_below (by kernel_rfl) (by kernel_rfl) ?_
    repeat (first
      | go_big_quiet_skip
      | (go_big_quiet_want
         first
           | (apply quiet_val
              focus (
                intro WC hWC
                obtain ⟨hcc0, hff0⟩ := bcell hWC
                go_simp
                all_goals rfl
                done)
              go_simp
              go_big_quiet_on)))
    refine wpQuiet_nil ?_
    intro w2 hw2
    go_wp2_with fail
    go_ret
    exact ⟨rfl, HG.out.trans (hw2.mono (by simp))⟩

set_option maxHeartbeats 2000000 in
theorem JRoom_any {P : Nat → Prop} (l : Jl) (sv : Sl) (w : World) (h : Se w P sv l.recs) :
    Calls Try.prog 19 #[jlV sv l] w fun e w' => e = .returned (.int .i64 (roomJ l)) ∧ Below w.heap.size w w' := by
  have hl := h.len
  have hle := h.le
  have HB := Lib.hid h
  obtain ⟨A, n, c⟩ := sv
  simp only at hl
  subst hl
  have HG : Hid (Below w.heap.size w (w.alloc (.cells #[.slice A l.recs.length c, .int .i64 l.many, .int .i64 l.synced] 29))) := Lib.hid ((Below.refl _ _).alloc (Nat.le_refl _) _)
  clear h
  cases hv : validJ l
  · rw [show roomJ l = 0 by simp [roomJ, hv]]
    have HC := Lib.hid (checkJ_no hv)
    clear hv
    unfold jlV
    go_enter Try.func19, Try.ntmps19
    go_wp2_with fail
    refine (JCheck_any l ⟨A, l.recs.length, c⟩ _ (HB.out.step HG.out)).mono ?_
    rw [HC.out]
    rintro e w1 ⟨rfl, hb1⟩
    go_wp2_with fail
    go_ret
    exact ⟨rfl, HG.out.trans (hb1.mono (by simp))⟩
  · obtain ⟨E, hE⟩ : ∃ E, E = roomJ l := ⟨_, rfl⟩
    rw [← hE]
    have HE : Hid (E = wrap64 (112 * wrap64 (l.many - usedR l.recs))) := Lib.hid (by rw [hE]; simp [roomJ, hv])
    have HC := Lib.hid (checkJ_yes hv)
    clear hv hE
    unfold jlV
    go_enter Try.func19, Try.ntmps19
    go_wp2_with fail
    refine (JCheck_any l ⟨A, l.recs.length, c⟩ _ (HB.out.step HG.out)).mono ?_
    rw [HC.out]
    rintro e w1 ⟨rfl, hb1⟩
    obtain ⟨c0, cz⟩ := CellAt.new w.heap.size rfl hb1 (by simp) 0 _ rfl
    obtain ⟨c1, _⟩ := CellAt.new w.heap.size rfl hb1 (by simp) 1 _ rfl
    have HG1 : Hid (Below w.heap.size w w1) := Lib.hid (HG.out.trans (hb1.mono (by simp)))
    have HU : Hid (∀ WC, Below w1.heap.size w1 WC → Calls Try.prog 36 #[.slice A l.recs.length c] WC fun e w' => e = .returned (.int .i64 (usedR l.recs)) ∧ WC = w') := Lib.hid (fun WC hWC => used_any ⟨A, l.recs.length, c⟩ l.recs WC (HB.out.step (HG1.out.trans (hWC.mono HG1.out.size))))
    clear hb1
    obtain ⟨u, hu⟩ : ∃ u, u = usedR l.recs := ⟨_, rfl⟩
    have HQ := Lib.hid hu
    clear hu
    go_wp2_with fail
    refine wp_region_below (by kernel_rfl) (by kernel_rfl) ?_
    repeat (first
      | go_big_quiet_skip
      | (go_big_quiet_want
         first
           | (apply quiet_val
              focus (
                intro WC hWC
                obtain ⟨hcc0, hff0⟩ := bcell hWC
                go_simp
                all_goals rfl
                done)
              go_simp
              go_big_quiet_on)
           | (apply quiet_call
              focus (
                intro WC hWC
                go_simp
                all_goals (first | rfl | exact ⟨rfl, rfl⟩)
                done)
              focus (
                intro WC hWC
                exact (HU.out WC hWC).mono fun e w' h => ⟨h.1.trans (by rw [← HQ.out]), h.2 ▸ hWC⟩
                done)
              go_simp
              go_big_quiet_on)))
    refine wpQuiet_nil ?_
    intro w2 hw2
    go_wp2_with fail
    go_ret
    exact ⟨ret_int (by rw [HE.out, ← HQ.out]; simp only [IntWalk.i64_left]), HG1.out.trans (hw2.mono HG1.out.size)⟩

set_option maxHeartbeats 2000000 in
theorem RJRoom_any {P : Nat → Prop} (l : Jl) (sv : Sl) (w : World) (h : Se w P sv l.recs) :
    Calls Try.prog 20 #[jlV sv l] w fun e w' => e = .returned (.int .i64 (roomJ l)) ∧ Below w.heap.size w w' := by
  have hl := h.len
  have hle := h.le
  have HB := Lib.hid h
  obtain ⟨A, n, c⟩ := sv
  simp only at hl
  subst hl
  have HG : Hid (Below w.heap.size w (w.alloc (.cells #[.slice A l.recs.length c, .int .i64 l.many, .int .i64 l.synced] 29))) := Lib.hid ((Below.refl _ _).alloc (Nat.le_refl _) _)
  clear h
  cases hv : validJ l
  · rw [show roomJ l = 0 by simp [roomJ, hv]]
    have HC := Lib.hid (checkJ_no hv)
    clear hv
    unfold jlV
    go_enter Try.func20, Try.ntmps20
    go_wp2_with fail
    refine (RJCheck_any l ⟨A, l.recs.length, c⟩ _ (HB.out.step HG.out)).mono ?_
    rw [HC.out]
    rintro e w1 ⟨rfl, hb1⟩
    go_wp2_with fail
    go_ret
    exact ⟨rfl, HG.out.trans (hb1.mono (by simp))⟩
  · obtain ⟨E, hE⟩ : ∃ E, E = roomJ l := ⟨_, rfl⟩
    rw [← hE]
    have HE : Hid (E = wrap64 (112 * wrap64 (l.many - usedR l.recs))) := Lib.hid (by rw [hE]; simp [roomJ, hv])
    have HC := Lib.hid (checkJ_yes hv)
    clear hv hE
    unfold jlV
    go_enter Try.func20, Try.ntmps20
    go_wp2_with fail
    refine (RJCheck_any l ⟨A, l.recs.length, c⟩ _ (HB.out.step HG.out)).mono ?_
    rw [HC.out]
    rintro e w1 ⟨rfl, hb1⟩
    obtain ⟨c0, cz⟩ := CellAt.new w.heap.size rfl hb1 (by simp) 0 _ rfl
    obtain ⟨c1, _⟩ := CellAt.new w.heap.size rfl hb1 (by simp) 1 _ rfl
    have HG1 : Hid (Below w.heap.size w w1) := Lib.hid (HG.out.trans (hb1.mono (by simp)))
    have HU : Hid (∀ WC, Below w1.heap.size w1 WC → Calls Try.prog 40 #[.slice A l.recs.length c] WC fun e w' => e = .returned (.int .i64 (usedR l.recs)) ∧ WC = w') := Lib.hid (fun WC hWC => RUsed_any ⟨A, l.recs.length, c⟩ l.recs WC (HB.out.step (HG1.out.trans (hWC.mono HG1.out.size))))
    clear hb1
    obtain ⟨u, hu⟩ : ∃ u, u = usedR l.recs := ⟨_, rfl⟩
    have HQ := Lib.hid hu
    clear hu
    go_wp2_with fail
    refine wp_region_below (by kernel_rfl) (by kernel_rfl) ?_
    repeat (first
      | go_big_quiet_skip
      | (go_big_quiet_want
         first
           | (apply quiet_val
              focus (
                intro WC hWC
                obtain ⟨hcc0, hff0⟩ := bcell hWC
                go_simp
                all_goals rfl
                done)
              go_simp
              go_big_quiet_on)
           | (apply quiet_call
              focus (
                intro WC hWC
                go_simp
                all_goals (first | rfl | exact ⟨rfl, rfl⟩)
                done)
              focus (
                intro WC hWC
                exact (HU.out WC hWC).mono fun e w' h => ⟨h.1.trans (by rw [← HQ.out]), h.2 ▸ hWC⟩
                done)
              go_simp
              go_big_quiet_on)))
    refine wpQuiet_nil ?_
    intro w2 hw2
    go_wp2_with fail
    go_ret
    exact ⟨ret_int (by rw [HE.out, ← HQ.out]; simp only [IntWalk.i64_left]), HG1.out.trans (hw2.mono HG1.out.size)⟩
end Go.Proofs.Ytgbkhmoplocmkaa
