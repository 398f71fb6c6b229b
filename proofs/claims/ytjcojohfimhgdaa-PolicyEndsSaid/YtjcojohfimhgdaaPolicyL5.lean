/- PolicyEnds, walked: every decision is kept in the end. -/
import Derived.Test.YtjcojohfimhgdaaPolicyL3
namespace Go.Proofs.Ytjcojohfimhgdaa
open Go.RowKit

theorem downTo_facts (p : Int → Bool) : ∀ m : Nat, -1 ≤ downTo p m ∧ downTo p m < m ∧ (0 ≤ downTo p m → p (downTo p m) = true) ∧ ∀ z : Int, downTo p m < z → 0 ≤ z → z < m → p z = false
  | 0 => ⟨by simp [downTo], by simp [downTo], by simp [downTo], fun z _ h1 h2 => by omega⟩
  | m + 1 => by
    obtain ⟨h1, h2, h3, h4⟩ := downTo_facts p m
    unfold downTo
    cases hp : p m
    · simp only [Bool.false_eq_true, if_false]
      refine ⟨h1, by omega, h3, fun z q1 q2 q3 => ?_⟩
      by_cases hz : z = m
      · rw [hz]; exact hp
      · exact h4 z q1 q2 (by omega)
    · simp only [if_true]
      exact ⟨by omega, by omega, fun _ => hp, fun z q1 q2 q3 => by omega⟩

theorem find_later {xs : List Cl} {p q : Cl → Bool} (hqp : ∀ x, q x = true → p x = true) {c' : Cl} (h : xs.find? q = some c') : ∃ c1, xs.find? p = some c1 ∧ (q c1 = true → c1 = c') := by
  induction xs with
  | nil => simp at h
  | cons y ys ih =>
    cases hp : p y
    · have hq : q y = false := by
        cases hq : q y
        · rfl
        · rw [hqp y hq] at hp; cases hp
      simp only [List.find?_cons, hq] at h
      obtain ⟨c1, h1, h2⟩ := ih h
      exact ⟨c1, by simp [List.find?_cons, hp, h1], h2⟩
    · refine ⟨y, by simp [List.find?_cons, hp], fun hq => ?_⟩
      simpa [List.find?_cons, hq] using h

def covB (kind b a t u act z : Int) (x : Cl) : Bool := fitsB kind b a x && (x.act == act) && decide (z ≤ t + x.untl) && decide (t + x.untl < u)

theorem ends_facts (xs : List Cl) (kind b a t : Int) (hv : xs.any Cl.bad = false) (t0 : 0 ≤ t) (t1 : t < 1024) :
    -1 ≤ untilP xs kind b a t ∧ untilP xs kind b a t < 1024 ∧ untilP xs kind b a t ≤ t + 12 ∧ (0 ≤ untilP xs kind b a t → actionP xs kind b a t (untilP xs kind b a t) = 3) ∧
    (∀ z, t + 12 < z → actionP xs kind b a t z = 1) ∧ (∀ z, untilP xs kind b a t < z → 0 ≤ z → z < 1024 → actionP xs kind b a t z ≠ 3) ∧
    (∀ z, 0 ≤ z → z < untilP xs kind b a t → actionP xs kind b a t z ≠ 3 → xs.any (covB kind b a t (untilP xs kind b a t) (actionP xs kind b a t z) z) = true) := by
  obtain ⟨h1, h2, h3, h4⟩ := downTo_facts (fun n => actionP xs kind b a t n == 3) (min (t + 12) 1023 + 1).toNat
  have hU : untilP xs kind b a t = downTo (fun n => actionP xs kind b a t n == 3) (min (t + 12) 1023 + 1).toNat := rfl
  rw [← hU] at h1 h2 h3 h4
  generalize untilP xs kind b a t = u at *
  have h3' : 0 ≤ u → actionP xs kind b a t u = 3 := fun h => by simpa using h3 h
  refine ⟨h1, by omega, by omega, h3', fun z hz => action_late xs kind b a t z hv hz, fun z q1 q2 q3 => ?_, fun z q1 q2 q3 => ?_⟩
  · by_cases hz : t + 12 < z
    · rw [action_late xs kind b a t z hv hz]; omega
    · have := h4 z q1 q2 (by omega)
      simpa using this
  · have hu := h3' (by omega)
    have hok : ∀ x ∈ xs, x.bad = false := fun x hx => by have := List.any_eq_false.1 hv x hx; simpa using this
    unfold actionP at hu
    cases hf : xs.find? (applB kind b a t u) with
    | none => rw [hf] at hu; simp at hu
    | some c' =>
      rw [hf] at hu
      obtain ⟨c1, hc1, hq⟩ := find_later (p := applB kind b a t z) (q := applB kind b a t u) (fun x hx => by
        unfold applB at hx ⊢
        simp at hx ⊢
        exact ⟨⟨hx.1.1, by omega⟩, hx.2⟩) hf
      have hact : actionP xs kind b a t z = c1.act := by unfold actionP; rw [hc1]
      have hm := List.mem_of_find?_eq_some hc1
      have hp := List.find?_some hc1
      rw [fits_appl (hok c1 hm)] at hp
      simp at hp
      refine List.any_eq_true.2 ⟨c1, hm, ?_⟩
      unfold covB
      rw [hact, hp.1]
      simp
      refine ⟨by omega, ?_⟩
      by_cases h : t + c1.untl < u
      · exact h
      · exfalso
        have hq1 : applB kind b a t u c1 = true := by
          rw [fits_appl (hok c1 hm), hp.1]
          simp; omega
        have := hq hq1
        subst this
        exact q3 (by rw [hact]; exact hu)

set_option maxRecDepth 100000 in
set_option maxHeartbeats 2000000 in
theorem PolicyEnds_any {w : World} (xs : List Cl) (A : Option Addr) (c : Nat) (hx0 : Reads w w.heap.size A 4 Cl.enc xs) (hq : ∀ y ∈ xs, y.ok) (hm : xs.length ≤ maxLen)
    (kind : Int) (wk : (Lit.int .i64 kind).wf = true) (b : Int) (wb : (Lit.int .i64 b).wf = true) (a : Int) (wa : (Lit.int .i64 a).wf = true) (term : Int) (wt : (Lit.int .u16 term).wf = true) :
    Calls Try.prog 7 #[.slice A xs.length c, .int .i64 kind, .int .i64 b, .int .i64 a, .int .u16 term] w fun e w' => e = .returned (.bool true) ∧ Below w.heap.size w w' := by
  unfold maxLen at hm
  obtain ⟨ht0, ht1⟩ := bounds_u16 wt
  clear hq wk wb wa wt
  have HX := Lib.hid hx0
  clear hx0
  go_enter Try.func7, Try.ntmps7
  go_wp2_with fail
  refine (sane_any _).mono ?_
  rintro e w1 ⟨rfl, hb1⟩
  go_wp2_with fail
  refine (few_any xs A c _).mono ?_
  rintro e w1' ⟨rfl, rfl⟩
  by_cases h30 : xs.length ≤ 30
  · have hd : decide (xs.length ≤ 30) = true := by simpa using h30
    rw [hd]
    clear hd
    go_wp2_with fail
    refine (Check_any xs A c _ ((HX.out.below hb1).more hb1.size) hm).mono ?_
    rintro e w2 ⟨rfl, hb2⟩
    have G2 := hb1.trans (hb2.mono hb1.size)
    cases hv : xs.any Cl.bad
    · have hc : checkP xs = 0 := by simp [checkP, hv]
      have V := Lib.hid hv
      rw [hc]
      clear hc hv
      by_cases hk : 1 ≤ kind ∧ kind ≤ 5
      · obtain ⟨k1, k5⟩ := hk
        go_wp2_with fail
        have t0 : 0 ≤ term % 1024 := by omega
        have t1 : term % 1024 < 1024 := by omega
        generalize term % 1024 = t at *
        have ha0 : argsP xs kind t = 0 := by simp [argsP, V.out, kindB, k1, k5, t0, t1]
        have hgen : ∀ n, 0 ≤ n → n < 1024 → ActionP xs kind b a t n = (actionP xs kind b a t n, 0) := fun n n0 n1 => by
          rw [ActionP, if_pos ha0, if_neg (by omega)]
        have hun : UntilP xs kind b a t = (untilP xs kind b a t, 0) := by rw [UntilP, if_pos ha0]
        have HG := Lib.hid hgen
        have HU := Lib.hid hun
        clear hgen hun ha0
        refine (Until_any xs A c kind b a t _ ((HX.out.below G2).more G2.size) hm).mono ?_
        rw [HU.out]
        rintro e w3 ⟨rfl, hb3⟩
        have G3 := G2.trans (hb3.mono G2.size)
        obtain ⟨e1, e2, e3, e4, e5, e6, e7⟩ := ends_facts xs kind b a t V.out t0 t1
        generalize untilP xs kind b a t = u at *
        have E4 := Lib.hid e4
        have E5 := Lib.hid e5
        have E6 := Lib.hid e6
        have E7 := Lib.hid e7
        clear e4 e5 e6 e7
        go_wp2_with fail
        go_loopw [14] (fun i wr => ∃ k : Nat, k ≤ 1024 ∧ i = .int .i64 k ∧ Below w.heap.size w wr) (fun i _ => 1024 - (intOf i).toNat)
        case atStart => exact ⟨0, by omega, rfl, G3⟩
        case round =>
          obtain ⟨k, hk, rfl, hb⟩ := hrel
          obtain ⟨wo, rfl⟩ : ∃ wo : World, wo = wr := ⟨_, rfl⟩
          by_cases hlt : k < 1024
          · have hact := HG.out k (by omega) (by omega)
            obtain ⟨r, hr⟩ : ∃ r, r = actionP xs kind b a t k := ⟨_, rfl⟩
            rw [← hr] at hact
            have HA := Lib.hid hact
            have HR := Lib.hid hr
            clear hact hr
            go_wp2_with fail
            refine (Action_any xs A c kind b a t k _ ((HX.out.below hb).more hb.size) hm).mono ?_
            rw [HA.out]
            rintro e w4 ⟨rfl, hb4⟩
            have G4 := hb.trans (hb4.mono hb.size)
            have hcase : (u < k) ∨ (k : Int) = u ∨ (k : Int) < u := by omega
            rcases hcase with hgt | heq | hlu
            · have q3 : (r == 3) = false := by have := E6.out k hgt (by omega) (by omega); rw [← HR.out] at this; simpa using this
              have qe : ((k : Int) == u) = false := by simp; omega
              by_cases hl : t + 12 < k
              · have q1 : (r != 1) = false := by have := E5.out k hl; rw [← HR.out] at this; rw [this]; rfl
                go_wp2_with fail
                go_roundw
                case rel => exact ⟨k + 1, by omega, by go_num, G4⟩
                case measure => simp [intOf]; omega
              · go_wp2_with fail
                go_roundw
                case rel => exact ⟨k + 1, by omega, by go_num, G4⟩
                case measure => simp [intOf]; omega
            · have q3 : (r == 3) = true := by have := E4.out (by omega); rw [← heq, ← HR.out] at this; rw [this]; rfl
              have q4 : (r != 3) = false := by simp at q3; rw [q3]; rfl
              have qe : ((k : Int) == u) = true := by simp; omega
              have hl : ¬ t + 12 < k := by omega
              have hgt : ¬ u < k := by omega
              have HE := Lib.hid heq
              clear heq
              go_wp2_with fail
              go_roundw
              case rel => exact ⟨k + 1, by omega, by go_num, G4⟩
              case measure => simp [intOf]; omega
            · have qe : ((k : Int) == u) = false := by simp; omega
              have hl : ¬ t + 12 < k := by omega
              have hgt : ¬ u < k := by omega
              cases q3 : r == 3
              · have hcov := E7.out k (by omega) hlu (by rw [← HR.out]; simpa using q3)
                rw [← HR.out] at hcov
                obtain ⟨pr, hpr⟩ : ∃ p : Cl → Bool, p = covB kind b a t u r k := ⟨_, rfl⟩
                rw [← hpr] at hcov
                have PR := Lib.hid hpr
                have CV := Lib.hid hcov
                clear hpr hcov
                go_wp2_with fail
                go_loopw [17, 119] (fun av i wr => ∃ j : Nat, j ≤ xs.length ∧ i = .int .i64 j ∧ Below w.heap.size w wr ∧ av = .bool ((xs.take j).any pr)) (fun _ i _ => xs.length - (intOf i).toNat)
                case atStart => exact ⟨0, by omega, rfl, G4, rfl⟩
                case round =>
                  obtain ⟨j, hj, rfl, hbj, rfl⟩ := hrel
                  by_cases hjl : j < xs.length
                  · obtain ⟨bb, off, x, rfl, hbl, hxk, hc⟩ := (HX.out.below hbj).at_ hjl
                    have hxv : x.bad = false := by have := List.any_eq_false.1 V.out x (List.mem_of_getElem? hxk); simpa using this
                    have hu : 0 ≤ x.untl ∧ x.untl ≤ 12 := by simp [Cl.bad] at hxv; omega
                    obtain ⟨u0, u1⟩ := hu
                    have hfa : pr x = (fitsB kind b a x && (x.act == r) && decide (k ≤ t + x.untl) && decide (t + x.untl < u)) := by rw [PR.out]; rfl
                    have FA := Lib.hid hfa
                    have hany := any_snoc (p := pr) hxk
                    have c0 := hc 0 _ rfl
                    have c1 := hc 1 _ rfl
                    have c2 := hc 2 _ rfl
                    have c3 := hc 3 _ rfl
                    simp only [Nat.add_zero] at c0
                    clear hc hxv hxk hfa
                    cases hap : (xs.take j).any pr
                    · rw [hap] at hany
                      have HAN := Lib.hid hany
                      clear hap hany
                      go_wp2_with fail
                      refine (fits_any x kind b a _).mono ?_
                      rintro e w11 ⟨rfl, hb11⟩
                      obtain ⟨hcc, hff⟩ := bcell hb11
                      have hbz : Below w.heap.size w w11 := (hbj.alloc hbj.size _).trans (hb11.mono (by have := hbj.size; simp <;> omega))
                      cases hfb : fitsB kind b a x
                      · have FB := Lib.hid hfb
                        go_wp2_with fail
                        go_roundw
                        case rel => exact ⟨j + 1, by omega, by go_num, hbz, by rw [HAN.out, FA.out, FB.out]; rfl⟩
                        case measure => simp [intOf]; omega
                      · have FB := Lib.hid hfb
                        cases hac : x.act == r
                        · have AC := Lib.hid hac
                          go_wp2_with fail
                          go_roundw
                          case rel => exact ⟨j + 1, by omega, by go_num, hbz, by rw [HAN.out, FA.out, FB.out, AC.out]; rfl⟩
                          case measure => simp [intOf]; omega
                        · have AC := Lib.hid hac
                          by_cases hle : (k : Int) ≤ t + x.untl
                          · go_wp2_with fail
                            go_roundw
                            case rel => exact ⟨j + 1, by omega, by go_num, hbz, by rw [HAN.out, FA.out, FB.out, AC.out]; simp [hle]⟩
                            case measure => simp [intOf]; omega
                          · go_wp2_with fail
                            go_roundw
                            case rel => exact ⟨j + 1, by omega, by go_num, hbz, by rw [HAN.out, FA.out, FB.out, AC.out]; simp; omega⟩
                            case measure => simp [intOf]; omega
                    · rw [hap] at hany
                      have HAN := Lib.hid hany
                      clear hap hany
                      go_wp2_with fail
                      go_roundw
                      case rel => exact ⟨j + 1, by omega, by go_num, hbj.alloc hbj.size _, by rw [HAN.out]; rfl⟩
                      case measure => simp [intOf]; omega
                  · obtain rfl : j = xs.length := by omega
                    rw [List.take_length, CV.out]
                    go_wp2_with fail
                    go_roundw
                    case rel => exact ⟨k + 1, by omega, by go_num, hbj⟩
                    case measure => simp [intOf]; omega
              · go_wp2_with fail
                go_roundw
                case rel => exact ⟨k + 1, by omega, by go_num, G4⟩
                case measure => simp [intOf]; omega
          · have hk2 : k = 1024 := by omega
            have K2 := Lib.hid hk2
            clear hk2
            go_wp2_with fail
            go_ret
            exact ⟨rfl, hb⟩
      · have hk' : kind < 1 ∨ 5 < kind := by omega
        clear hk
        go_wp2_with fail
        all_goals go_ret
        all_goals exact ⟨rfl, G2⟩
    · have hc : checkP xs = 330 := by simp [checkP, hv]
      rw [hc]
      clear hc hv
      go_wp2_with fail
      go_ret
      exact ⟨rfl, G2⟩
  · have hd : decide (xs.length ≤ 30) = false := by simpa using h30
    rw [hd]
    clear hd
    go_wp2_with fail
    go_ret
    exact ⟨rfl, hb1⟩
end Go.Proofs.Ytjcojohfimhgdaa
