/- JournalSteps' function literal add: records appended as far as each fits. -/
import Derived.Test.YtgbkhmoplocmkaaJouLA
import Derived.Test.YtgbkhmoplocmkaaJouK
import Derived.Test.YtgbkhmoplocmkaaDskT
import Derived.BigQuiet
namespace Go.Proofs.Ytgbkhmoplocmkaa
open Go.RowKit Go.Shelf
set_option linter.unusedSimpArgs false
set_option linter.unusedVariables false
set_option maxRecDepth 20000

set_option maxRecDepth 100000 in
set_option maxHeartbeats 8000000 in
theorem add_any {P : Nat → Prop} {n : Nat} (hn40 : n ≤ 40) (l : Jl) (rs : List (List Int)) (sj sr : Sl) (w : World) (hj : Se w P sj l.recs) (hr : Se w P sr rs) (hin : JIn n l) (hrb : ∀ b ∈ rs, Byt b ∧ b.length ≤ 9223372036854775696) :
    Calls Try.prog 28 #[jlV sj l, .slice sr.a sr.n sr.c] w fun e w' => (∃ r : Sl, e = .returned (jlV r (addJ l rs)) ∧ Se w' (Nw P w) r (addJ l rs).recs) ∧ Below w.heap.size w w' := by
  have hm := hr.len
  have hle := hr.le
  obtain ⟨A, m, c⟩ := sr
  simp only at hm
  subst hm
  have HJI : Hid (∀ i, JIn n (addJ l (rs.take i)) ∧ (addJ l (rs.take i)).many = l.many ∧ (addJ l (rs.take i)).synced = l.synced) := Lib.hid (fun i => by
    obtain ⟨h1, h2, h3, _⟩ := addJ_in (rs.take i) hin (fun b hb => hrb b (List.mem_of_mem_take hb))
    exact ⟨h1, h2, h3⟩)
  have HRB := Lib.hid hrb
  have HN := Lib.hid hn40
  have hj1 : Se w (fun b => Nw P w b ∧ b ≠ w.heap.size ∧ b ≠ w.heap.size + 1) sj l.recs := hj.mono2 (fun b hp hb => ⟨.inl hp, by omega, by omega⟩)
  have hr1 : Se w (fun b => Nw P w b ∧ b ≠ w.heap.size ∧ b ≠ w.heap.size + 1) ⟨A, rs.length, c⟩ rs := hr.mono2 (fun b hp hb => ⟨.inl hp, by omega, by omega⟩)
  have HJ := Lib.hid hj1
  have HR := Lib.hid hr1
  clear hj hr hj1 hr1 hin hrb hn40
  unfold jlV
  go_enter Try.func28, Try.ntmps28
  go_upto_region 1 with fail
  obtain ⟨W0, hW0⟩ : ∃ X, X = ((w.alloc (.cells #[.slice sj.a sj.n sj.c, .int .i64 l.many, .int .i64 l.synced] 29)).alloc (.cells #[.slice none 0 0, .int .i64 0, .int .i64 0] 29)) := ⟨_, rfl⟩
  rw [← hW0]
  have hb0 : Below w.heap.size w W0 := by rw [hW0]; exact ((Below.refl _ _).alloc (Nat.le_refl _) _).alloc (by simp) _
  have hx2 : Box3 W0 w.heap.size (.slice sj.a sj.n sj.c) (.int .i64 l.many) (.int .i64 l.synced) := by rw [hW0]; exact (Box3.new ..).step ((Below.refl _ _).alloc (Nat.le_refl _) _)
  have hx4 : Box3 W0 (w.heap.size + 1) (.slice none 0 0) (.int .i64 0) (.int .i64 0) := by rw [hW0]; exact Box3.at_ _ _ _ _ _ _ (by simp)
  have HXA := Lib.hid hx2
  have HXB := Lib.hid hx4
  have HB0 := Lib.hid hb0
  have HJ0 := Lib.hid (HJ.out.step hb0)
  have HR0 := Lib.hid (HR.out.step hb0)
  clear hW0 hx2 hx4 hb0
  go_wp2_with fail
  go_loopw [11] (fun t11 wr => ∃ (i : Nat) (r : Sl) (lc : Jl), i ≤ rs.length ∧ t11 = .int .i64 i ∧ lc = addJ l (rs.take i) ∧ Box3 wr w.heap.size (.slice r.a r.n r.c) (.int .i64 lc.many) (.int .i64 lc.synced) ∧ Box3 wr (w.heap.size + 1) (.slice none 0 0) (.int .i64 0) (.int .i64 0) ∧ Se wr (fun b => Nw P w b ∧ b ≠ w.heap.size ∧ b ≠ w.heap.size + 1) r lc.recs ∧ Se wr (fun b => Nw P w b ∧ b ≠ w.heap.size ∧ b ≠ w.heap.size + 1) ⟨A, rs.length, c⟩ rs ∧ Below w.heap.size w wr) (fun t11 _ => rs.length - (intOf t11).toNat)
  case atStart => exact ⟨0, sj, l, Nat.zero_le _, rfl, rfl, HXA.out, HXB.out, HJ0.out, HR0.out, HB0.out⟩
  case round =>
    obtain ⟨i, r, lc, hi, rfl, hlc, hx2, hx4, hsr, hrs, hbw⟩ := hrel
    obtain ⟨W1, hW1⟩ : ∃ X, X = wr := ⟨_, rfl⟩
    subst hW1
    have HLC := Lib.hid hlc
    have HX2 := Lib.hid hx2
    have HX4 := Lib.hid hx4
    have HSR := Lib.hid hsr
    have HRS := Lib.hid hrs
    have HBW := Lib.hid hbw
    obtain ⟨x0, x1, x2, xf0, xf1, xf2, xz⟩ := hx2
    clear hlc hx4 hsr hrs hbw HXA HXB HJ0 HR0 HB0
    by_cases hlt : i < rs.length
    · obtain ⟨bA, oA, v, s, hA, hbA, hsk, hby, hcv⟩ := HRS.out.at_ hlt
      simp only at hA
      subst hA
      have HBY := Lib.hid hby
      have HSK := Lib.hid hsk
      clear hby hsk
      have hjc : JIn n lc := by rw [HLC.out]; exact (HJI.out i).1
      have hsb := HRB.out s (List.mem_of_getElem? HSK.out)
      have hln := hjc.few
      have hap := JAppend_any (P := fun b => Nw P w b ∧ b ≠ w.heap.size ∧ b ≠ w.heap.size + 1) lc r v s W1 HSR.out HBY.out (by have := HN.out; omega) (fun h => hjc.short hsb.1 hsb.2 HN.out h)
      have hgz := HBW.out.size
      have hgz1 : w.heap.size + 1 < W1.heap.size := HX4.out.z
      rcases hjc.append hsb.1 hsb.2 with ⟨ha, _, _⟩ | ⟨ha, _⟩
      · have HLN : Hid (⟨lc.recs ++ [s], lc.many, lc.synced⟩ = addJ l (rs.take (i + 1))) := Lib.hid (by rw [addJ_snoc l rs HSK.out, ← HLC.out, ha]; rfl)
        rw [ha] at hap
        unfold jlV at hap
        simp only at hap
        clear ha hjc hsb hln
        go_wp2_with fail
        refine hap.mono ?_
        rintro e W2 ⟨⟨r2, rfl, hr2⟩, hb2⟩
        clear hap x0 x1 x2 xf0 xf1 xf2 xz hcv hbA
        have hx2 := HX2.out.step hb2
        have hx4 := HX4.out.step hb2
        have hrs2 := HRS.out.step hb2
        have hz2 := hb2.size
        go_upto_region 5 with fail
        obtain ⟨W3, hW3⟩ : ∃ X, X = (W2.alloc (.cells #[.slice r2.a r2.n r2.c, .int .i64 lc.many, .int .i64 lc.synced] 29)) := ⟨_, rfl⟩
        rw [← hW3]
        have hb3 : Below W2.heap.size W2 W3 := by rw [hW3]; exact (Below.refl _ _).alloc (Nat.le_refl _) _
        have hx7 : Box3 W3 W2.heap.size (.slice r2.a r2.n r2.c) (.int .i64 lc.many) (.int .i64 lc.synced) := by rw [hW3]; exact Box3.new ..
        have hx23 := hx2.step hb3
        have HX2' := Lib.hid hx23
        have HX4' := Lib.hid (hx4.step hb3)
        have HRS' := Lib.hid (hrs2.step hb3)
        have HR2 : Hid (Se W3 (fun b => Nw P w b ∧ b ≠ w.heap.size ∧ b ≠ w.heap.size + 1) r2 (lc.recs ++ [s])) := Lib.hid ((hr2.mono (fun b hb => hb.elim id (fun h => ⟨.inr (by omega), by omega, by omega⟩))).step hb3)
        have HBW' : Hid (Below w.heap.size w W3) := Lib.hid ((HBW.out.trans (hb2.mono hgz)).trans (hb3.mono (by omega)))
        clear hW3 hb3 hx2 hx4 hrs2 hr2 hb2
        obtain ⟨y0, y1, y2, yf0, yf1, yf2, yz⟩ := hx7
        obtain ⟨x0, x1, x2, xf0, xf1, xf2, xz⟩ := hx23
        go_wp2_with fail
        go_roundw
        case rel => exact ⟨i + 1, r2, ⟨lc.recs ++ [s], lc.many, lc.synced⟩, hlt, by go_num, HLN.out, HX2'.out.put _ _ _, HX4'.out.far (put3_keep _ _ _ _ _) (by simp), HR2.out.keep (put3_kp _ _ (fun h => h.2.1 rfl) _ _ _), HRS'.out.keep (put3_kp _ _ (fun h => h.2.1 rfl) _ _ _), put3_below HBW'.out (Nat.le_refl _) _ _ _⟩
        case measure => simp [intOf]; omega
      · have HLN : Hid (lc = addJ l (rs.take (i + 1))) := Lib.hid (by rw [addJ_snoc l rs HSK.out, ← HLC.out, ha]; rfl)
        rw [ha] at hap
        unfold jlV at hap
        simp only [Jl.zero] at hap
        clear ha hjc hsb hln
        go_wp2_with fail
        refine hap.mono ?_
        rintro e W2 ⟨⟨r2, rfl, hr2⟩, hb2⟩
        clear hap x0 x1 x2 xf0 xf1 xf2 xz hcv hbA
        have hz2 := hb2.size
        go_upto_region 5 with fail
        obtain ⟨W3, hW3⟩ : ∃ X, X = (W2.alloc (.cells #[.slice r2.a r2.n r2.c, .int .i64 0, .int .i64 0] 29)) := ⟨_, rfl⟩
        rw [← hW3]
        have hb3 : Below W1.heap.size W1 W3 := by rw [hW3]; exact hb2.alloc hb2.size _
        have HX2' := Lib.hid (HX2.out.step hb3)
        have HX4' := Lib.hid (HX4.out.step hb3)
        have HRS' := Lib.hid (HRS.out.step hb3)
        have HR2 := Lib.hid (HSR.out.step hb3)
        have HBW' : Hid (Below w.heap.size w W3) := Lib.hid (HBW.out.trans (hb3.mono hgz))
        clear hW3 hb3 hr2 hb2
        go_wp2_with fail
        go_roundw
        case rel => exact ⟨i + 1, r, lc, hlt, by go_num, HLN.out, HX2'.out, HX4'.out, HR2.out, HRS'.out, HBW'.out⟩
        case measure => simp [intOf]; omega
    · obtain rfl : i = rs.length := by omega
      have HLN : Hid (lc = addJ l rs) := Lib.hid (by rw [HLC.out, List.take_length])
      obtain ⟨y0, y1, y2, yf0, yf1, yf2, yz⟩ := HX4.out
      go_wp2_with fail
      have hz := HX4.out.put (.slice r.a r.n r.c) (.int .i64 lc.many) (.int .i64 lc.synced)
      obtain ⟨z0, z1, z2, zf0, zf1, zf2, zz⟩ := hz
      unfold put3 at z0 z1 z2
      exact bodyPost_ret (v := .agg #[.slice r.a r.n r.c, .int .i64 lc.many, .int .i64 lc.synced]) (by simp [results, Try.results28, go_sem, z0, z1, z2]) rfl ⟨⟨r, by rw [← HLN.out], by rw [← HLN.out]; exact (HSR.out.keep (put3_kp _ _ (fun h => h.2.2 rfl) _ _ _)).mono (fun _ h => h.1)⟩, put3_below HBW.out (Nat.le_succ _) _ _ _⟩
end Go.Proofs.Ytgbkhmoplocmkaa
