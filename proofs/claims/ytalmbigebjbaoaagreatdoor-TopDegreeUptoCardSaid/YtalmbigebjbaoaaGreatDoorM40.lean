/- TopDegree, what its proof leans on: the texts TpA, TpB. -/
import Derived.Test.YtalmbigebjbaoaaGreatDoorM36
import Derived.Test.YtalmbigebjbaoaaGreatDoorM02
import Derived.Test.YtalmbigebjbaoaaGreatDoorM25
import Derived.Deep.CutRange
import Derived.BigQuiet
import Derived.Test.YtalmbigebjbaoaaGreatDoorM37
import Derived.Test.YtalmbigebjbaoaaGreatDoorM39
import Derived.Test.YtalmbigebjbaoaaGreatDoorM18
import Derived.Test.YtalmbigebjbaoaaGreatDoorM07
namespace Go.Proofs.YtalmbigebjbaoaaGreatDoor
open Go.RowKit Go.Shelf
set_option linter.unusedSimpArgs false
set_option linter.unusedVariables false
attribute [local go_sem] Oper.semAt_some
theorem rcWithin_any (n lo hi : Int) (w : World) :
 Calls Tryz.prog 31 #[.int .i64 n, .int .i64 lo, .int .i64 hi] w fun e w' => e = .returned (.bool (inB n lo hi)) ∧ w = w' := by
 go_enter Tryz.func31, Tryz.ntmps31
 go_wp2
 all_goals go_ret
 all_goals refine ⟨ret_bool ?_, rfl⟩
 all_goals (unfold inB; simp_all <;> omega)
theorem orderB_any (a b : At) (w : World) : Calls Tryz.prog 65 #[a.v, b.v] w fun e w' => e = .returned (.int .i64 (cmpA a b)) ∧ Below w.heap.size w w' :=
 (order_any a b w).mono fun e w' ⟨h, q, os, hw⟩ => ⟨h, by
   subst hw
   refine ⟨rfl, rfl, rfl, by simp [Go.Sort.grow], fun k hk => ?_⟩
   simp [Go.Sort.grow, World.drewN, Array.getElem?_append, hk]⟩
def nextA (p : Option At) (a : At) : Bool := a.good && (match p with | none => true | some q => decide (cmpA q a < 0))
def chkR : Option At → List At → Bool
 | _, [] => true
 | p, a :: l => nextA p a && chkR (some a) l
def recB (student : Int) (l : List At) : Bool := inB student 0 19999 && chkR none l
def prevA (l : List At) (k : Nat) : Option At := match k with | 0 => none | k + 1 => l[k]?
theorem chkR_drop (l : List At) (k : Nat) (a : At) (p : Option At) (h : l[k]? = some a) : chkR p (l.drop k) = (nextA p a && chkR (some a) (l.drop (k + 1))) := by
 have hl := (List.getElem?_eq_some_iff.1 h).1
 rw [List.drop_eq_getElem_cons hl, (List.getElem?_eq_some_iff.1 h).2]
 rfl
set_option maxRecDepth 100000 in
set_option maxHeartbeats 8000000 in
theorem rcCheck_any (student : Int) (l : List At) (A : Option Addr) (c : Nat) (w : World) (hx : Reads w w.heap.size A 5 At.enc l) (hl : l.length ≤ 9223372036854775807) :
 Calls Tryz.prog 33 #[.agg #[.int .i64 student, .slice A l.length c]] w fun e w' => e = .returned (.int .i64 (if recB student l then 0 else 150)) ∧ Below w.heap.size w w' := by
 have HX := Lib.hid hx
 obtain ⟨E, hE⟩ : ∃ E : Int, E = if recB student l then 0 else 150 := ⟨_, rfl⟩
 rw [← hE]
 have HE := Lib.hid hE
 have HB0 : Hid (Below w.heap.size w (w.alloc (.cells #[.int .i64 student, .slice A l.length c] 49))) := Lib.hid ((Below.refl _ _).alloc (Nat.le_refl _) _)
 have HX0 : Hid (Bx (w.alloc (.cells #[.int .i64 student, .slice A l.length c] 49)) w.heap.size [.int .i64 student, .slice A l.length c]) := Lib.hid (Bx.new w [.int .i64 student, .slice A l.length c] 49)
 clear hx hE
 cases t0 : inB student 0 19999
 ·have T0 := Lib.hid t0
  have HF : Hid (E = 150) := Lib.hid (by rw [HE.out, if_neg (by unfold recB; simp [t0])])
  clear t0
  go_enter Tryz.func33, Tryz.ntmps33
  go_wp2_with fail
  refine (rcWithin_any _ _ _ _).mono ?_
  rw [T0.out]
  rintro e w1 ⟨rfl, rfl⟩
  go_wp2_with fail
  go_ret
  exact ⟨by rw [HF.out]; rfl, HB0.out⟩
 have T0 := Lib.hid t0
 have HC0 : Hid (recB student l = chkR none l) := Lib.hid (by unfold recB; rw [t0, Bool.true_and])
 clear t0
 go_enter Tryz.func33, Tryz.ntmps33
 go_wp2_with fail
 refine (rcWithin_any _ _ _ _).mono ?_
 rw [T0.out]
 rintro e w1 ⟨rfl, rfl⟩
 go_wp2_with fail
 go_loopw [12] (fun i wr => ∃ k : Nat, k ≤ l.length ∧ i = .int .i64 k ∧ chkR none l = chkR (prevA l k) (l.drop k) ∧ Below w.heap.size w wr ∧ Bx wr w.heap.size [.int .i64 student, .slice A l.length c]) (fun i _ => l.length - (intOf i).toNat)
 case atStart => exact ⟨0, Nat.zero_le _, rfl, rfl, HB0.out, HX0.out⟩
 case round =>
  obtain ⟨k, hk, rfl, hck, hbw, hbx⟩ := hrel
  have HCK := Lib.hid hck
  have HBW := Lib.hid hbw
  have HBX := Lib.hid hbx
  have HXr := Lib.hid ((HX.out.below hbw).more hbw.size)
  clear hck hbw hbx
  by_cases hlt : k < l.length
  ·obtain ⟨ba, oa, a, rfl, hba, hxk, hca⟩ := HXr.out.at_ hlt
   have HST := Lib.hid (chkR_drop l k a (prevA l k) hxk)
   have HXK := Lib.hid hxk
   have a0 := hca 0 _ rfl
   have a1 := hca 1 _ rfl
   have a2 := hca 2 _ rfl
   have a3 := hca 3 _ rfl
   have a4 := hca 4 _ rfl
   simp only [Nat.add_zero] at a0
   clear hca hxk
   go_upto_region 6 with fail
   go_cut [59] from 13 to 59 (fun t59 wx => t59 = .bool (!nextA (prevA l k) a) ∧ Below wr.heap.size wr wx)
   case first =>
    obtain ⟨W6, hW6⟩ : ∃ X, X = wr.alloc (.cells #[.int .i64 a.course, .int .i64 a.term, .int .i64 a.grade, .int .i64 a.campus, .int .i64 a.credits] 69) := ⟨_, rfl⟩
    have hb6 : Below wr.heap.size wr W6 := by rw [hW6]; exact (Below.refl _ _).alloc (Nat.le_refl _) _
    have HB6 := Lib.hid hb6
    have hX6 : Bx W6 wr.heap.size [.int .i64 a.course, .int .i64 a.term, .int .i64 a.grade, .int .i64 a.campus, .int .i64 a.credits] := by rw [hW6]; exact Bx.new wr [.int .i64 a.course, .int .i64 a.term, .int .i64 a.grade, .int .i64 a.campus, .int .i64 a.credits] _
    have HW6 : Hid (∀ (o : Nat) (v : Value), ba < wr.heap.size → wr.cell? ⟨ba, o, none⟩ = some v → W6.cell? ⟨ba, o, none⟩ = some v) := Lib.hid (fun o v hz h => (hb6.cell (p := ⟨ba, o, none⟩) hz).trans h)
    obtain ⟨pb, hpb⟩ : ∃ pb, pb = wr.heap.size := ⟨_, rfl⟩
    rw [← hW6]
    have c0 := HW6.out _ _ (by omega) a0
    have c1 := HW6.out _ _ (by omega) a1
    have c2 := HW6.out _ _ (by omega) a2
    have c3 := HW6.out _ _ (by omega) a3
    have c4 := HW6.out _ _ (by omega) a4
    have hbx6 := HBX.out.step hb6
    obtain ⟨y0, y1, y2⟩ := hbx6
    have k1 := y0 1 _ rfl
    obtain ⟨z0, z1, z2⟩ := hX6
    have d0 := z0 0 _ rfl
    have d1 := z0 1 _ rfl
    have d2 := z0 2 _ rfl
    have d3 := z0 3 _ rfl
    have d4 := z0 4 _ rfl
    rw [← hpb] at d0 d1 d2 d3 d4 z2 ⊢
    replace hba : ba < wr.heap.size := by omega
    have hba6 : ba < W6.heap.size := by have := hb6.size; omega
    have HPB := Lib.hid hpb
    clear hW6 hb6 hpb y0 y1 z0 z1 a0 a1 a2 a3 a4
    cases t1 : inB a.course 0 4095
    case false =>
     have HNX : Hid (nextA (prevA l k) a = false) := Lib.hid (by unfold nextA At.good; simp [t1])
     refine wp_region_below (by kernel_rfl) (by kernel_rfl) ?_
     repeat (first
      | go_big_quiet_skip
      | (go_big_quiet_want
         first
          | (apply quiet_val
             focus (
              intro WC hWC
              obtain ⟨hcc0, hff0⟩ := bcell hWC
              go_simp
              all_goals rfl
              done)
             go_simp
             go_big_quiet_on)
          | (apply quiet_call
             focus (
              intro WC hWC
              go_simp
              all_goals (first | rfl | exact ⟨rfl, rfl⟩)
              done)
             focus (
              intro WC hWC
              exact (rcWithin_any _ _ _ WC).mono fun e w' h => ⟨h.1, h.2 ▸ hWC⟩
              done)
             go_simp
             go_big_quiet_on)))
     refine wpQuiet_nil ?_
     intro w5 hw5
     go_wp2_with fail
     obtain rfl := HPB.out
     go_meet
     case rel => exact ⟨by rw [HNX.out]; rfl, HB6.out.trans (hw5.mono HB6.out.size)⟩
    cases t2 : inB a.term 0 1023
    case false =>
     have HNX : Hid (nextA (prevA l k) a = false) := Lib.hid (by unfold nextA At.good; simp [t2])
     refine wp_region_below (by kernel_rfl) (by kernel_rfl) ?_
     repeat (first
      | go_big_quiet_skip
      | (go_big_quiet_want
         first
          | (apply quiet_val
             focus (
              intro WC hWC
              obtain ⟨hcc0, hff0⟩ := bcell hWC
              go_simp
              all_goals rfl
              done)
             go_simp
             go_big_quiet_on)
          | (apply quiet_call
             focus (
              intro WC hWC
              go_simp
              all_goals (first | rfl | exact ⟨rfl, rfl⟩)
              done)
             focus (
              intro WC hWC
              exact (rcWithin_any _ _ _ WC).mono fun e w' h => ⟨h.1, h.2 ▸ hWC⟩
              done)
             go_simp
             go_big_quiet_on)))
     refine wpQuiet_nil ?_
     intro w5 hw5
     go_wp2_with fail
     obtain rfl := HPB.out
     go_meet
     case rel => exact ⟨by rw [HNX.out]; rfl, HB6.out.trans (hw5.mono HB6.out.size)⟩
    cases t3 : inB a.grade 0 12
    case false =>
     have HNX : Hid (nextA (prevA l k) a = false) := Lib.hid (by unfold nextA At.good; simp [t3])
     refine wp_region_below (by kernel_rfl) (by kernel_rfl) ?_
     repeat (first
      | go_big_quiet_skip
      | (go_big_quiet_want
         first
          | (apply quiet_val
             focus (
              intro WC hWC
              obtain ⟨hcc0, hff0⟩ := bcell hWC
              go_simp
              all_goals rfl
              done)
             go_simp
             go_big_quiet_on)
          | (apply quiet_call
             focus (
              intro WC hWC
              go_simp
              all_goals (first | rfl | exact ⟨rfl, rfl⟩)
              done)
             focus (
              intro WC hWC
              exact (rcWithin_any _ _ _ WC).mono fun e w' h => ⟨h.1, h.2 ▸ hWC⟩
              done)
             go_simp
             go_big_quiet_on)))
     refine wpQuiet_nil ?_
     intro w5 hw5
     go_wp2_with fail
     obtain rfl := HPB.out
     go_meet
     case rel => exact ⟨by rw [HNX.out]; rfl, HB6.out.trans (hw5.mono HB6.out.size)⟩
    cases t4 : inB a.campus 0 6
    case false =>
     have HNX : Hid (nextA (prevA l k) a = false) := Lib.hid (by unfold nextA At.good; simp [t4])
     refine wp_region_below (by kernel_rfl) (by kernel_rfl) ?_
     repeat (first
      | go_big_quiet_skip
      | (go_big_quiet_want
         first
          | (apply quiet_val
             focus (
              intro WC hWC
              obtain ⟨hcc0, hff0⟩ := bcell hWC
              go_simp
              all_goals rfl
              done)
             go_simp
             go_big_quiet_on)
          | (apply quiet_call
             focus (
              intro WC hWC
              go_simp
              all_goals (first | rfl | exact ⟨rfl, rfl⟩)
              done)
             focus (
              intro WC hWC
              exact (rcWithin_any _ _ _ WC).mono fun e w' h => ⟨h.1, h.2 ▸ hWC⟩
              done)
             go_simp
             go_big_quiet_on)))
     refine wpQuiet_nil ?_
     intro w5 hw5
     go_wp2_with fail
     obtain rfl := HPB.out
     go_meet
     case rel => exact ⟨by rw [HNX.out]; rfl, HB6.out.trans (hw5.mono HB6.out.size)⟩
    cases t5 : inB a.credits 0 60
    case false =>
     have HNX : Hid (nextA (prevA l k) a = false) := Lib.hid (by unfold nextA At.good; simp [t5])
     refine wp_region_below (by kernel_rfl) (by kernel_rfl) ?_
     repeat (first
      | go_big_quiet_skip
      | (go_big_quiet_want
         first
          | (apply quiet_val
             focus (
              intro WC hWC
              obtain ⟨hcc0, hff0⟩ := bcell hWC
              go_simp
              all_goals rfl
              done)
             go_simp
             go_big_quiet_on)
          | (apply quiet_call
             focus (
              intro WC hWC
              go_simp
              all_goals (first | rfl | exact ⟨rfl, rfl⟩)
              done)
             focus (
              intro WC hWC
              exact (rcWithin_any _ _ _ WC).mono fun e w' h => ⟨h.1, h.2 ▸ hWC⟩
              done)
             go_simp
             go_big_quiet_on)))
     refine wpQuiet_nil ?_
     intro w5 hw5
     go_wp2_with fail
     obtain rfl := HPB.out
     go_meet
     case rel => exact ⟨by rw [HNX.out]; rfl, HB6.out.trans (hw5.mono HB6.out.size)⟩
    have HG : Hid (a.good = true) := Lib.hid (by unfold At.good; rw [t1, t2, t3, t4, t5]; rfl)
    cases k with
    | zero =>
      have HNX : Hid (nextA (prevA l 0) a = true) := Lib.hid (by unfold nextA prevA; rw [HG.out]; rfl)
      refine wp_region_below (by kernel_rfl) (by kernel_rfl) ?_
      repeat (first
       | go_big_quiet_skip
       | (go_big_quiet_want
          first
           | (apply quiet_val
              focus (
               intro WC hWC
               obtain ⟨hcc0, hff0⟩ := bcell hWC
               go_simp
               all_goals rfl
               done)
              go_simp
              go_big_quiet_on)
           | (apply quiet_call
              focus (
               intro WC hWC
               go_simp
               all_goals (first | rfl | exact ⟨rfl, rfl⟩)
               done)
              focus (
               intro WC hWC
               exact (rcWithin_any _ _ _ WC).mono fun e w' h => ⟨h.1, h.2 ▸ hWC⟩
               done)
              go_simp
              go_big_quiet_on)))
      refine wpQuiet_nil ?_
      intro w5 hw5
      go_wp2_with fail
      obtain rfl := HPB.out
      go_meet
      case rel => exact ⟨by rw [HNX.out]; rfl, HB6.out.trans (hw5.mono HB6.out.size)⟩
    | succ k =>
      obtain ⟨ba2, oa2, p, e2, hba2, hpk, hcp⟩ := HXr.out.at_ (show k < l.length by omega)
      cases e2
      have r0 := HW6.out _ _ hba (hcp 0 _ rfl)
      have r1 := HW6.out _ _ hba (hcp 1 _ rfl)
      have r2 := HW6.out _ _ hba (hcp 2 _ rfl)
      have r3 := HW6.out _ _ hba (hcp 3 _ rfl)
      have r4 := HW6.out _ _ hba (hcp 4 _ rfl)
      simp only [Nat.add_zero] at r0
      obtain ⟨r, hr⟩ : ∃ r, r = cmpA p a := ⟨_, rfl⟩
      have HO := Lib.hid (fun W => orderB_any p a W)
      rw [← hr] at HO
      unfold At.v at HO
      have HNX : Hid (nextA (prevA l (k + 1)) a = decide (r < 0)) := Lib.hid (by
       unfold nextA
       rw [HG.out, show prevA l (k + 1) = some p from hpk, hr]
       rfl)
      have hs1 : ((k : Int) + 1) - 1 = (k : Int) := by omega
      have hs2 : IntKind.i64.wrap (k : Int) = (k : Int) := IntWalk.i64_in _ ⟨by omega, by omega⟩
      have hs3 : (0 : Int) < (k : Int) + 1 := by omega
      have hs4 : (0 : Int) ≤ (k : Int) := by omega
      have hs5 : (k : Int) < (l.length : Int) := by omega
      have hs6 : ((k : Int)).toNat = k := Int.toNat_natCast k
      clear hr hcp hpk
      cases q : decide (0 ≤ r)
      all_goals
       refine wp_region_below (by kernel_rfl) (by kernel_rfl) ?_
       repeat (first
        | go_big_quiet_skip
        | (go_big_quiet_want
           first
            | (apply quiet_val
               focus (
                intro WC hWC
                obtain ⟨hcc0, hff0⟩ := bcell hWC
                go_simp
                all_goals rfl
                done)
               go_simp
               go_big_quiet_on)
            | (apply quiet_call
               focus (
                intro WC hWC
                go_simp
                all_goals (first | rfl | exact ⟨rfl, rfl⟩)
                done)
               focus (
                intro WC hWC
                exact (rcWithin_any _ _ _ WC).mono fun e w' h => ⟨h.1, h.2 ▸ hWC⟩
                done)
               go_simp
               go_big_quiet_on)
            | (apply quiet_call
               focus (
                intro WC hWC
                go_simp
                all_goals (first | rfl | exact ⟨rfl, rfl⟩)
                done)
               focus (
                intro WC hWC
                exact (HO.out WC).mono fun e w' h => ⟨h.1, hWC.trans (h.2.mono hWC.size)⟩
                done)
               go_simp
               go_big_quiet_on)))
       refine wpQuiet_nil ?_
       intro w5 hw5
      ·go_wp2_with fail
       obtain rfl := HPB.out
       go_meet
       case rel => exact ⟨by rw [HNX.out, decide_eq_true (by have := of_decide_eq_false q; omega)]; rfl, HB6.out.trans (hw5.mono HB6.out.size)⟩
      ·go_wp2_with fail
       obtain rfl := HPB.out
       go_meet
       case rel => exact ⟨by rw [HNX.out, decide_eq_false (by have := of_decide_eq_true q; omega)]; rfl, HB6.out.trans (hw5.mono HB6.out.size)⟩
   case rest =>
    obtain ⟨rfl, hbc⟩ := hcut
    cases hn : nextA (prevA l k) a
    ·have HF : Hid (E = 150) := Lib.hid (by rw [HE.out, HC0.out, HCK.out, HST.out, hn]; rfl)
     have HBC : Hid (Below w.heap.size w wc) := Lib.hid (HBW.out.trans (hbc.mono HBW.out.size))
     go_wp2_with fail
     go_ret
     exact ⟨by rw [HF.out]; rfl, HBC.out⟩
    ·have HBC : Hid (Below w.heap.size w wc) := Lib.hid (HBW.out.trans (hbc.mono HBW.out.size))
     have HBX2 := Lib.hid (HBX.out.step hbc)
     have HNX : Hid (chkR none l = chkR (some a) (l.drop (k + 1))) := Lib.hid (by rw [HCK.out, HST.out, hn, Bool.true_and])
     go_wp2_with fail
     go_roundw
     case rel => exact ⟨k + 1, by omega, by go_num, by rw [HNX.out, show prevA l (k + 1) = some a from HXK.out], HBC.out, HBX2.out⟩
     case measure => simp [intOf]; omega
  ·obtain rfl : k = l.length := by omega
   have HF : Hid (E = 0) := Lib.hid (by rw [HE.out, HC0.out, HCK.out, List.drop_length]; rfl)
   go_wp2_with fail
   go_ret
   exact ⟨by rw [HF.out]; rfl, HBW.out⟩
def againF : Option Cr → Int
 | some x => x.again
 | none => 0
theorem field_again (o : Option Cr) (W : World) : (Instr.field 123 (.agg (crC o).toArray) 3).run Tryz.prog W = .ok (.int .i64 (againF o)) W := by
 cases o with
 | none => kernel_rfl
 | some x => kernel_rfl
def rulesF (d : Wd) (term known : Int) (l : List At) : List Int := l.map (fun a => againF (courF d a.course term known))
def upTo (rs : List Int) (k : Nat) : List Int := rs.take k ++ List.replicate (rs.length - k) 0
theorem upTo_len (rs : List Int) (k : Nat) : (upTo rs k).length = rs.length := by unfold upTo; simp; omega
theorem upTo_zero (rs : List Int) : upTo rs 0 = List.replicate rs.length 0 := by simp [upTo]
theorem upTo_all (rs : List Int) : upTo rs rs.length = rs := by simp [upTo]
theorem upTo_set (rs : List Int) (k : Nat) (x : Int) (h : rs[k]? = some x) : (upTo rs k).set k x = upTo rs (k + 1) := by
 have hk := (List.getElem?_eq_some_iff.1 h).1
 have m1 : min k rs.length = k := by omega
 have m2 : min (k + 1) rs.length = k + 1 := by omega
 apply List.ext_getElem?
 intro i
 rw [List.getElem?_set]
 unfold upTo
 simp only [List.getElem?_append, List.length_take, List.getElem?_take, List.getElem?_replicate, List.length_append, List.length_replicate, m1, m2]
 by_cases h1 : k = i
 ·subst h1
  rw [if_pos rfl, if_pos (by omega), if_pos (by omega), if_pos (by omega), h]
 ·rw [if_neg h1]
  by_cases h2 : i < k
  ·rw [if_pos h2, if_pos h2, if_pos (by omega), if_pos (by omega)]
  ·rw [if_neg h2, if_neg (show ¬ i < k + 1 by omega)]
   by_cases h3 : i < rs.length
   ·rw [if_pos (by omega), if_pos (by omega)]
   ·rw [if_neg (by omega), if_neg (by omega)]
theorem FlAt.reads_ {w : World} {F : Nat} {xs : List Int} (h : FlAt w F xs) : Reads w w.heap.size (some ⟨F, 0, none⟩) 1 intE xs := fun _ => ⟨F, 0, rfl, h.lt, fun i x j v hi hj => by
 have hil := (List.getElem?_eq_some_iff.1 hi).1
 cases j with
 | zero =>
   simp [intE] at hj
   subst hj
   have := h.cell hil
   rw [List.getD_eq_getElem?_getD, hi] at this
   simpa using this
 | succ j => simp [intE] at hj⟩
theorem LkF.set {b : Nat} {v v' : Value} {W W' : World} (h : LkF b v v' W W') {a : Addr} (ha : W.heap.size ≤ a.block) (u : Value) : LkF b v v' W (W'.setCell a u) :=
 ⟨h.os, h.tape, h.output, by simp [World.setCell]; exact h.size, fun k hk hb hv => (Below.heap_setCell _ _ _ _ (by omega)).trans (h.block k hk hb hv), h.own⟩
set_option maxRecDepth 100000 in
set_option maxHeartbeats 8000000 in
theorem lkCounted_any {n₀ b B : Nat} {d : Wd} {known : Int} {m : Nat} {v : Value} (l : List At) (A : Option Addr) (c : Nat) (term : Int) (W : World) (hk : Lk n₀ b B d known m v W) (hx : Reads W b A 5 At.enc l) (hl : l.length ≤ 100000) (hf : d.fs.length ≤ 100000) (hfw : ∀ x ∈ d.cs, Cr.Few x) (hm : m + 100000 ≤ 1099511627776) (hB : B ≤ W.heap.size) :
 Calls Tryz.prog 34 #[.pointer (some ⟨b, 0, none⟩), .slice A l.length c, .int .i64 term] W fun e w' =>
  ∃ (u v' : Value), e = .returned (.tuple #[u, .int .i64 (countedA l (rulesF d term known l)).2]) ∧ Owns w' W.heap.size 69 5 At.enc u (countedA l (rulesF d term known l)).1 ∧ Lk n₀ b B d known (m + 100000) v' w' ∧ LkF b v v' W w' := by
 have HK := Lib.hid hk
 have HX := Lib.hid hx
 have hzb : b < W.heap.size := hk.bx.2.2
 have hmk := run_make_ints l.length (by omega) W
 obtain ⟨rs, hrs⟩ : ∃ rs, rs = rulesF d term known l := ⟨_, rfl⟩
 have hrl : rs.length = l.length := by rw [hrs]; simp [rulesF]
 rw [← hrs]
 have HRS := Lib.hid hrs
 have HRL := Lib.hid hrl
 have hzo : ∀ k, v.ownBlock = some k → k < W.heap.size := fun k e => by
  obtain ⟨_, o, _⟩ := hk.ow
  exact o.lt k e
 have HZO := Lib.hid hzo
 have HBB : Hid (∀ k, v.ownBlock = some k → b ≤ k) := Lib.hid (fun k e => by have := hk.base k e; have := hk.z2; omega)
 obtain ⟨W1, hW1⟩ : ∃ X, X = W.alloc (.cells ((List.replicate l.length (0 : Int)).map (Value.int .i64)).toArray 3) := ⟨_, rfl⟩
 have hb1 : Below W.heap.size W W1 := by rw [hW1]; exact (Below.refl _ _).alloc (Nat.le_refl _) _
 obtain ⟨F, hF⟩ : ∃ F, F = W.heap.size := ⟨_, rfl⟩
 have hfl : FlAt W1 F (upTo rs 0) := by rw [upTo_zero, hrl, hW1, hF]; exact FlAt.made _ _
 rw [← hW1, ← hF] at hmk
 have HF := Lib.hid hF
 have HI0 : Hid (Lk n₀ b B d known m v W1 ∧ LkF b v v W W1 ∧ v.ownBlock ≠ some F ∧ FlAt W1 F (upTo rs 0)) := Lib.hid ⟨hk.step hb1, LkF.of_below hb1, (fun e => by have := hzo _ e; omega), hfl⟩
 clear hk hx hrs hrl hzo hb1 hfl hF hW1
 go_enter Tryz.func34, Tryz.ntmps34
 go_wp2_with fail
 go_loopw [16] (fun i wr => ∃ (k : Nat) (m1 : Nat) (v2 : Value), k ≤ l.length ∧ i = .int .i64 k ∧ m1 ≤ m + k ∧ Lk n₀ b B d known m1 v2 wr ∧ LkF b v v2 W wr ∧ v2.ownBlock ≠ some F ∧ FlAt wr F (upTo rs k)) (fun i _ => l.length - (intOf i).toNat)
 case atStart => exact ⟨0, m, v, Nat.zero_le _, rfl, by omega, HI0.out⟩
 case round =>
  clear HI0
  obtain ⟨k, m1, v2, hkl, rfl, hm1, hk1, hf1, ho1, hfl⟩ := hrel
  have HK1 := Lib.hid hk1
  have HF1 := Lib.hid hf1
  have HFL := Lib.hid hfl
  have HXr := Lib.hid ((HX.out.below (hf1.below (Nat.le_refl b) HBB.out (Nat.le_of_lt hzb))).more (show b ≤ wr.heap.size by have := hf1.size; omega))
  have HO1 := Lib.hid ho1
  clear hk1 hf1 hfl ho1
  by_cases hlt : k < l.length
  ·obtain ⟨ba, oa, a, rfl, hba, hxk, hca⟩ := HXr.out.at_ hlt
   have HXK := Lib.hid hxk
   have a0 := hca 0 _ rfl
   have a1 := hca 1 _ rfl
   have a2 := hca 2 _ rfl
   have a3 := hca 3 _ rfl
   have a4 := hca 4 _ rfl
   simp only [Nat.add_zero] at a0
   obtain ⟨z, hz⟩ : ∃ z, z = againF (courF d a.course term known) := ⟨_, rfl⟩
   obtain ⟨ec, hec⟩ : ∃ ec, ec = (crC (courF d a.course term known)).toArray := ⟨_, rfl⟩
   have hfd := field_again (courF d a.course term known)
   rw [← hz, ← hec] at hfd
   have HC := Lib.hid (fun (w9 : World) (m9 : Nat) (v9 : Value) (h : Lk n₀ b B d known m9 v9 w9) (hb : B ≤ w9.heap.size) (hm9 : m9 + 1 ≤ 1099511627776) => lkCourse_any a.course term w9 h hf hfw hm9 hb)
   rw [← hec] at HC
   have HRK : Hid (rs[k]? = some z) := Lib.hid (by rw [HRS.out, hz]; unfold rulesF; rw [List.getElem?_map, hxk]; rfl)
   have hk0 : (0 : Int) ≤ (k : Int) := by omega
   have hk1 : (k : Int) < (l.length : Int) := by omega
   have hkt : ((k : Int)).toNat = k := Int.toNat_natCast k
   clear hca hxk hz hec
   have HB6 : Hid (Below wr.heap.size wr (wr.alloc (.cells #[.int .i64 a.course, .int .i64 a.term, .int .i64 a.grade, .int .i64 a.campus, .int .i64 a.credits] 69))) := Lib.hid ((Below.refl _ _).alloc (Nat.le_refl _) _)
   have hBw : B ≤ wr.heap.size := Nat.le_trans hB HF1.out.size
   have hFw : F < wr.heap.size := HFL.out.lt
   go_wp2_with fail
   refine (HC.out _ m1 v2 (HK1.out.step HB6.out) (Nat.le_trans hBw HB6.out.size) (by omega)).mono ?_
   rintro e w6 ⟨rfl, v4, hk6, hf6⟩
   have hF6 : Hid (FlAt w6 F (upTo rs k)) := Lib.hid ((hf6.block F (Nat.lt_of_lt_of_le hFw HB6.out.size) (by have := HF.out; omega) HO1.out).trans ((HB6.out.block F hFw).trans HFL.out))
   have HK6 := Lib.hid hk6
   have HF6 := Lib.hid hf6
   have cc := hF6.out.cell (i := k) (by rw [upTo_len, HRL.out]; exact hlt)
   have cf := hF6.out.free k
   have HOF : Hid (v4.ownBlock ≠ some F) := Lib.hid (by
    rcases hf6.own with h | h
    ·rw [h]; exact HO1.out
    ·intro e; have := h _ e; have := HB6.out.size; omega)
   clear hk6 hf6
   go_wp2_with fail
   go_roundw
   case rel =>
    refine ⟨k + 1, m1 + 1, v4, by omega, by go_num, by omega, HK6.out.far (by simp [World.setCell]) (fun j hj hc => Below.heap_setCell _ _ _ _ (fun e => ?_)), ((HF1.out.trans (LkF.of_below HB6.out)).trans HF6.out).set (by have := HF.out; show W.heap.size ≤ F; omega) _, HOF.out, by rw [← upTo_set _ _ _ HRK.out]; exact hF6.out.set k z⟩
    have e2 : j = F := by first | exact e | exact e.symm
    subst e2
    have := HF.out
    have h1 := HK6.out.z1
    rcases hc with hc | hc | hc
    ·omega
    ·omega
    ·exact HOF.out hc
   case measure => simp [intOf]; omega
  ·obtain rfl : k = l.length := by omega
   have HY : Hid (Reads wr wr.heap.size (some ⟨F, 0, none⟩) 1 intE rs) := Lib.hid (by have h := FlAt.reads_ HFL.out; rw [show upTo rs l.length = rs by rw [← HRL.out]; exact upTo_all rs] at h; exact h)
   have hcc := Counted_any l rs A (some ⟨F, 0, none⟩) c l.length wr HXr.out HY.out hl (by have := HRL.out; omega)
   rw [HRL.out] at hcc
   have HCC := Lib.hid hcc
   clear hcc
   go_wp2_with fail
   refine HCC.out.mono ?_
   rintro e w9 ⟨⟨u, rfl, hu⟩, hb9⟩
   go_wp2_with fail
   go_ret2
   exact ⟨u, v2, rfl, Owns.base hu HF1.out.size, (HK1.out.mono (by omega)).step hb9, HF1.out.trans (LkF.of_below hb9)⟩
end Go.Proofs.YtalmbigebjbaoaaGreatDoor
