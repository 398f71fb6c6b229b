/- PolicyWhen and PolicyRest, walked: only the direction of a change matters; clauses behind the first that applies do not. -/
import Derived.Test.YtjcojohfimhgdaaPolicyL2
import Derived.Test.YtjcojohfimhgdaaAppLib
namespace Go.Proofs.Ytjcojohfimhgdaa
open Go.RowKit

theorem enc_len (x : Cl) : x.enc.length = 4 := rfl
theorem enc_one (x : Cl) : ∀ u ∈ x.enc, u.oneCell' = true := by
  intro u hu
  simp [Cl.enc] at hu
  rcases hu with rfl | rfl | rfl | rfl <;> rfl
theorem Try.infoCl : (Try.prog.info? 35).map (fun i => (i.zero, i.size, i.bytes)) = some (some (.agg #[.int .i64 0, .int .i64 0, .int .i64 0, .int .i64 0]), 4, 32) := by kernel_rfl

theorem action_dir (xs : List Cl) (kind b a b' a' t n : Int) (h1 : decide (b < a) = decide (b' < a')) (h2 : decide (a < b) = decide (a' < b')) : actionP xs kind b' a' t n = actionP xs kind b a t n := by
  unfold actionP
  have : applB kind b' a' t n = applB kind b a t n := by
    funext x
    unfold applB holdsB
    rw [h1, h2]
  rw [this]
theorem action_keep (xs : List Cl) (keep : Cl → Bool) (kind b a t n : Int) (hk : ∀ x, keep x = holdsB x.when_ b a) : actionP (xs.filter keep) kind b a t n = actionP xs kind b a t n := by
  unfold actionP
  rw [List.find?_filter]
  have : (fun x => decide (keep x = true ∧ applB kind b a t n x = true)) = applB kind b a t n := by
    funext x
    rw [hk]
    unfold applB
    cases holdsB x.when_ b a <;> simp
  rw [this]

set_option maxHeartbeats 2000000 in
theorem PolicyWhen_any {w : World} (xs : List Cl) (A : Option Addr) (c : Nat) (hx0 : Reads w w.heap.size A 4 Cl.enc xs) (hq : ∀ y ∈ xs, y.ok) (hm : xs.length ≤ maxLen)
    (kind : Int) (wk : (Lit.int .i64 kind).wf = true) (b : Int) (wb : (Lit.int .i64 b).wf = true) (a : Int) (wa : (Lit.int .i64 a).wf = true) (term : Int) (wt : (Lit.int .u16 term).wf = true) (now : Int) (wn : (Lit.int .u16 now).wf = true) :
    Calls Try.prog 9 #[.slice A xs.length c, .int .i64 kind, .int .i64 b, .int .i64 a, .int .u16 term, .int .u16 now] w fun e w' => e = .returned (.bool true) ∧ Below w.heap.size w w' := by
  unfold maxLen at hm
  obtain ⟨ht0, ht1⟩ := bounds_u16 wt
  obtain ⟨hn0, hn1⟩ := bounds_u16 wn
  clear hq wk wb wa wt wn
  have HX := Lib.hid hx0
  clear hx0
  go_enter Try.func9, Try.ntmps9
  go_wp2_with fail
  refine (sane_any _).mono ?_
  rintro e w1 ⟨rfl, hb1⟩
  go_wp2_with fail
  refine (few_any xs A c _).mono ?_
  rintro e w1' ⟨rfl, rfl⟩
  by_cases h30 : xs.length ≤ 30
  · have hd : decide (xs.length ≤ 30) = true := by simpa using h30
    rw [hd]
    clear hd
    go_wp2_with fail
    refine (Check_any xs A c _ ((HX.out.below hb1).more hb1.size) hm).mono ?_
    rintro e w2 ⟨rfl, hb2⟩
    have G2 := hb1.trans (hb2.mono hb1.size)
    cases hv : xs.any Cl.bad
    · have hc : checkP xs = 0 := by simp [checkP, hv]
      have V := Lib.hid hv
      rw [hc]
      clear hc hv
      by_cases hk : 1 ≤ kind ∧ kind ≤ 5
      · obtain ⟨k1, k5⟩ := hk
        go_wp2_with fail
        have t0 : 0 ≤ term % 1024 := by omega
        have t1 : term % 1024 < 1024 := by omega
        have n0 : 0 ≤ now % 1024 := by omega
        have n1 : now % 1024 < 1024 := by omega
        generalize term % 1024 = t at *
        generalize now % 1024 = n at *
        have hgen : ∀ (ys : List Cl) (b a : Int), ys.any Cl.bad = false → ActionP ys kind b a t n = (actionP ys kind b a t n, 0) := fun ys b a hv => by
          have ha : argsP ys kind t = 0 := by simp [argsP, hv, kindB, k1, k5, t0, t1]
          rw [ActionP, if_pos ha, if_neg (by omega)]
        have HG := Lib.hid hgen
        clear hgen
        refine (Action_any xs A c kind b a t n _ ((HX.out.below G2).more G2.size) hm).mono ?_
        rw [HG.out _ _ _ V.out]
        rintro e w3 ⟨rfl, hb3⟩
        have G3 := G2.trans (hb3.mono G2.size)
        obtain ⟨r, hr⟩ : ∃ r, r = actionP xs kind b a t n := ⟨_, rfl⟩
        rw [← hr]
        have HR := Lib.hid hr
        clear hr
        go_wp2_with fail
        obtain ⟨keep, hkeep⟩ : ∃ p : Cl → Bool, p = fun x => holdsB x.when_ b a := ⟨_, rfl⟩
        have hkp : ∀ x, keep x = holdsB x.when_ b a := fun x => by rw [hkeep]
        have HK := Lib.hid hkp
        clear hkp hkeep
        obtain ⟨i0, hi, hz0, hz1, hz2⟩ := info_parts Try.infoCl
        have HI := Lib.hid hi
        clear hi
        go_loopw [19, 62] (fun sv i wr => ∃ k : Nat, k ≤ xs.length ∧ i = .int .i64 k ∧ Below w.heap.size w wr ∧ Owns wr w.heap.size 35 4 Cl.enc sv ((xs.take k).filter keep))
          (fun _ i _ => xs.length - (intOf i).toNat)
        case atStart => exact ⟨0, Nat.zero_le _, rfl, G3, Owns.nil_ _ _ _ _ _⟩
        case round =>
          obtain ⟨k, hk, rfl, hb, how⟩ := hrel
          by_cases hlt : k < xs.length
          · obtain ⟨bb, off, x, rfl, hbl, hxk, hc⟩ := (HX.out.below hb).at_ hlt
            have hxv : x.bad = false := by have := List.any_eq_false.1 V.out x (List.mem_of_getElem? hxk); simpa using this
            have c0 := hc 0 _ rfl
            have c1 := hc 1 _ rfl
            have c2 := hc 2 _ rfl
            have c3 := hc 3 _ rfl
            simp only [Nat.add_zero] at c0
            have hu : x.when_ = 0 ∨ (x.when_ = 1 ∧ b < a) ∨ (x.when_ = 1 ∧ ¬ b < a) ∨ (x.when_ = 2 ∧ a < b) ∨ (x.when_ = 2 ∧ ¬ a < b) := by simp [Cl.bad] at hxv; omega
            have hsn := filter_snoc (p := keep) hxk
            rw [HK.out] at hsn
            clear hc hxv hxk
            have HOW := Lib.hid how
            clear how
            have htl : ((xs.take k).filter keep).length ≤ 30 := Nat.le_trans (List.length_filter_le _ _) (by simp; omega)
            rcases hu with h0 | ⟨h0, hab⟩ | ⟨h0, hab⟩ | ⟨h0, hab⟩ | ⟨h0, hab⟩
            all_goals
              simp [holdsB, *] at hsn
              have HS := Lib.hid hsn
              clear hsn
            · have q0 : (x.when_ == 0) = true := by rw [h0]; rfl
              clear h0
              go_wp2_with (at_builtin; refine stop_mk ?_)
              refine stop_out (wpList_append_reads (en := Cl.enc) (sz := 4) _ rfl _ _ _ rfl enc_len enc_one w.heap.size 35 i0 _ 32 Try.underlying22 HI.out hz0 hz1 hz2 rfl (by omega) _ ((xs.take k).filter keep) rfl ((HOW.out.alloc _).alloc _)
                (wr.heap.size + 2) (some ⟨wr.heap.size + 1, 0, none⟩) 1 [x] rfl ((reads_one (wr.alloc _) Cl.enc x _ _ rfl 4 (wr.heap.size + 1) (by simp)).more (B' := wr.heap.size + 2) (by omega)) (fun h => by cases h) (by simp [maxLen]; omega) (by simp; omega) (by have := hb.size; simp; omega) ?_)
              intro v1 w5 hown1 hg1 hat1 _
              have hb5 : Below w.heap.size w w5 := ((hb.alloc hb.size _).alloc (by have := hb.size; simp; omega) _).grown hg1 (by have := hb.size; simp; omega) HOW.out.base_le
              clear hg1 hat1
              have HOW1 := Lib.hid hown1
              clear hown1
              go_wp2_with fail
              go_roundw
              case rel => exact ⟨k + 1, by omega, by go_num, hb5, by rw [HS.out]; exact HOW1.out⟩
              case measure => simp [intOf]; omega
            · have q0 : (x.when_ == 0) = false := by rw [h0]; rfl
              have q1 : (x.when_ == 1) = true := by rw [h0]; rfl
              clear h0
              go_wp2_with (at_builtin; refine stop_mk ?_)
              refine stop_out (wpList_append_reads (en := Cl.enc) (sz := 4) _ rfl _ _ _ rfl enc_len enc_one w.heap.size 35 i0 _ 32 Try.underlying22 HI.out hz0 hz1 hz2 rfl (by omega) _ ((xs.take k).filter keep) rfl ((HOW.out.alloc _).alloc _)
                (wr.heap.size + 2) (some ⟨wr.heap.size + 1, 0, none⟩) 1 [x] rfl ((reads_one (wr.alloc _) Cl.enc x _ _ rfl 4 (wr.heap.size + 1) (by simp)).more (B' := wr.heap.size + 2) (by omega)) (fun h => by cases h) (by simp [maxLen]; omega) (by simp; omega) (by have := hb.size; simp; omega) ?_)
              intro v1 w5 hown1 hg1 hat1 _
              have hb5 : Below w.heap.size w w5 := ((hb.alloc hb.size _).alloc (by have := hb.size; simp; omega) _).grown hg1 (by have := hb.size; simp; omega) HOW.out.base_le
              clear hg1 hat1
              have HOW1 := Lib.hid hown1
              clear hown1
              go_wp2_with fail
              go_roundw
              case rel => exact ⟨k + 1, by omega, by go_num, hb5, by rw [HS.out]; exact HOW1.out⟩
              case measure => simp [intOf]; omega
            · have q0 : (x.when_ == 0) = false := by rw [h0]; rfl
              have q1 : (x.when_ == 1) = true := by rw [h0]; rfl
              have q2 : (x.when_ == 2) = false := by rw [h0]; rfl
              clear h0
              go_wp2_with (at_builtin; refine stop_mk ?_)
              go_roundw
              case rel => exact ⟨k + 1, by omega, by go_num, hb.alloc hb.size _, by rw [HS.out]; exact HOW.out.alloc _⟩
              case measure => simp [intOf]; omega
            · have q0 : (x.when_ == 0) = false := by rw [h0]; rfl
              have q1 : (x.when_ == 1) = false := by rw [h0]; rfl
              have q2 : (x.when_ == 2) = true := by rw [h0]; rfl
              clear h0
              go_wp2_with (at_builtin; refine stop_mk ?_)
              refine stop_out (wpList_append_reads (en := Cl.enc) (sz := 4) _ rfl _ _ _ rfl enc_len enc_one w.heap.size 35 i0 _ 32 Try.underlying22 HI.out hz0 hz1 hz2 rfl (by omega) _ ((xs.take k).filter keep) rfl ((HOW.out.alloc _).alloc _)
                (wr.heap.size + 2) (some ⟨wr.heap.size + 1, 0, none⟩) 1 [x] rfl ((reads_one (wr.alloc _) Cl.enc x _ _ rfl 4 (wr.heap.size + 1) (by simp)).more (B' := wr.heap.size + 2) (by omega)) (fun h => by cases h) (by simp [maxLen]; omega) (by simp; omega) (by have := hb.size; simp; omega) ?_)
              intro v1 w5 hown1 hg1 hat1 _
              have hb5 : Below w.heap.size w w5 := ((hb.alloc hb.size _).alloc (by have := hb.size; simp; omega) _).grown hg1 (by have := hb.size; simp; omega) HOW.out.base_le
              clear hg1 hat1
              have HOW1 := Lib.hid hown1
              clear hown1
              go_wp2_with fail
              go_roundw
              case rel => exact ⟨k + 1, by omega, by go_num, hb5, by rw [HS.out]; exact HOW1.out⟩
              case measure => simp [intOf]; omega
            · have q0 : (x.when_ == 0) = false := by rw [h0]; rfl
              have q1 : (x.when_ == 1) = false := by rw [h0]; rfl
              have q2 : (x.when_ == 2) = true := by rw [h0]; rfl
              clear h0
              go_wp2_with (at_builtin; refine stop_mk ?_)
              go_roundw
              case rel => exact ⟨k + 1, by omega, by go_num, hb.alloc hb.size _, by rw [HS.out]; exact HOW.out.alloc _⟩
              case measure => simp [intOf]; omega
          · obtain rfl : k = xs.length := by omega
            rw [List.take_length] at how
            have hvs : (xs.filter keep).any Cl.bad = false := by
              rw [List.any_eq_false]
              intro y hy
              exact List.any_eq_false.1 V.out y (List.mem_filter.1 hy).1
            have hfl : actionP (xs.filter keep) kind b a t n = actionP xs kind b a t n := action_keep xs keep kind b a t n (fun x => by rw [HK.out])
            have VS := Lib.hid hvs
            have FL := Lib.hid hfl
            clear hvs hfl
            have hfn : (xs.filter keep).length ≤ 30 := Nat.le_trans (List.length_filter_le _ _) h30
            obtain ⟨A1, cc1, rfl, hnn, _⟩ := how.shape
            have hr1 := how.reads enc_len
            generalize xs.filter keep = zs at *
            have HR1 := Lib.hid hr1
            clear how hr1 hnn
            have hdir : (b < a ∧ ¬ a < b) ∨ (a < b ∧ ¬ b < a) ∨ (¬ a < b ∧ ¬ b < a) := by omega
            have hsz := hb.size
            rcases hdir with ⟨d1, d2⟩ | ⟨d1, d2⟩ | ⟨d1, d2⟩
            · go_wp2_with fail
              refine (Action_any xs A c kind 0 1 t n _ ((HX.out.below hb).more hb.size) hm).mono ?_
              rw [HG.out _ _ _ V.out]
              rintro e w4 ⟨rfl, hb4⟩
              have G4 := hb.trans (hb4.mono hb.size)
              go_wp2_with fail
              refine (Action_any zs A1 cc1 kind b a t n _ ((HR1.out.below hb4).more hb4.size) (by omega)).mono ?_
              rw [HG.out _ _ _ VS.out, action_dir xs kind b a 0 1 t n (by simp; omega) (by simp; omega), FL.out, ← HR.out]
              rintro e w5 ⟨rfl, hb5⟩
              have G5 := G4.trans (hb5.mono G4.size)
              go_wp2_with fail
              go_ret
              exact ⟨ret_bool (by simp), G5⟩
            · go_wp2_with fail
              refine (Action_any xs A c kind 1 0 t n _ ((HX.out.below hb).more hb.size) hm).mono ?_
              rw [HG.out _ _ _ V.out]
              rintro e w4 ⟨rfl, hb4⟩
              have G4 := hb.trans (hb4.mono hb.size)
              go_wp2_with fail
              refine (Action_any zs A1 cc1 kind b a t n _ ((HR1.out.below hb4).more hb4.size) (by omega)).mono ?_
              rw [HG.out _ _ _ VS.out, action_dir xs kind b a 1 0 t n (by simp; omega) (by simp; omega), FL.out, ← HR.out]
              rintro e w5 ⟨rfl, hb5⟩
              have G5 := G4.trans (hb5.mono G4.size)
              go_wp2_with fail
              go_ret
              exact ⟨ret_bool (by simp), G5⟩
            · go_wp2_with fail
              refine (Action_any xs A c kind 0 0 t n _ ((HX.out.below hb).more hb.size) hm).mono ?_
              rw [HG.out _ _ _ V.out]
              rintro e w4 ⟨rfl, hb4⟩
              have G4 := hb.trans (hb4.mono hb.size)
              go_wp2_with fail
              refine (Action_any zs A1 cc1 kind b a t n _ ((HR1.out.below hb4).more hb4.size) (by omega)).mono ?_
              rw [HG.out _ _ _ VS.out, action_dir xs kind b a 0 0 t n (by simp; omega) (by simp; omega), FL.out, ← HR.out]
              rintro e w5 ⟨rfl, hb5⟩
              have G5 := G4.trans (hb5.mono G4.size)
              go_wp2_with fail
              go_ret
              exact ⟨ret_bool (by simp), G5⟩
      · have hk' : kind < 1 ∨ 5 < kind := by omega
        clear hk
        go_wp2_with fail
        all_goals go_ret
        all_goals exact ⟨rfl, G2⟩
    · have hc : checkP xs = 330 := by simp [checkP, hv]
      rw [hc]
      clear hc hv
      go_wp2_with fail
      go_ret
      exact ⟨rfl, G2⟩
  · have hd : decide (xs.length ≤ 30) = false := by simpa using h30
    rw [hd]
    clear hd
    go_wp2_with fail
    go_ret
    exact ⟨rfl, hb1⟩
end Go.Proofs.Ytjcojohfimhgdaa
