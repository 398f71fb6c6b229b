/- Journals: the reference's Sector. -/
import Derived.Test.YtgbkhmoplocmkaaJouM
namespace Go.Proofs.Ytgbkhmoplocmkaa
open Go.RowKit Go.Shelf
set_option linter.unusedSimpArgs false
set_option linter.unusedVariables false
set_option maxRecDepth 20000
attribute [local go_sem] Oper.semAt_some

theorem flat_bytes (xs : List Int) : xs.flatMap byteE = xs.map (Value.int .u8) := by
  induction xs with
  | nil => rfl
  | cons x xs ih => rw [List.flatMap_cons, ih]; rfl
theorem Bk.owns {w : World} {F base : Nat} {xs : List Int} (h : Bk w 5 F xs) (hb : base ≤ F) (hl : xs.length ≤ maxLen) : Owns w base 5 1 byteE (.slice (some ⟨F, 0, none⟩) xs.length xs.length) xs := by
  refine ⟨by rw [flat_bytes]; simp, .inr ⟨F, xs.length, _, rfl, hb, h, Nat.le_refl _, hl, by simp, ?_⟩⟩
  rw [flat_bytes, List.take_of_length_le (by simp)]
theorem reads_bytes (w : World) (xs : List Int) (cs : Array Value) (t : TypeId) (hcs : cs.toList = xs.map (Value.int .u8)) (g : Nat) (hg : g = w.heap.size) : Reads (w.alloc (.cells cs t)) (g + 1) (some ⟨g, 0, none⟩) 1 byteE xs :=
  reads_mk w g 1 hg byteE xs cs t fun i x j v hi hj => by
    cases j with
    | zero =>
      simp [byteE] at hj
      subst hj
      rw [← Array.getElem?_toList, hcs]
      simp [hi]
    | succ j => simp [byteE] at hj
theorem Owns.by_ {w : World} {base n c : Nat} {A : Option Addr} {xs : List Int} (h : Owns w base 5 1 byteE (.slice A n c) xs) (hb : ∀ b ∈ xs, 0 ≤ b ∧ b < 256) : By w (fun b => base ≤ b) ⟨A, n, c⟩ xs := ⟨SlR.of_owns byteE_len h, hb⟩

set_option maxRecDepth 100000 in
set_option maxHeartbeats 4000000 in
theorem RSector_any {P : Nat → Prop} (gen num : Int) (bg en : Bool) (kind : Int) (v : Sl) (bs : List Int) (w : World) (h : By w P v bs) (hl : bs.length ≤ 112) (hg : 0 ≤ gen ∧ gen < 18446744073709551616) (hkd : kind = (if bg then 1 else 0) + (if en then 2 else 0)) :
    Calls Try.prog 47 #[.int .u64 gen, .int .i64 num, .bool bg, .bool en, .slice v.a v.n v.c] w fun e w' => (∃ rv : Sl, e = .returned (.slice rv.a rv.n rv.c) ∧ By w' (fun b => w.heap.size ≤ b) rv (encB gen (IntKind.u64.wrap num) kind bs)) ∧ Below w.heap.size w w' := by
  have hn := h.1.1
  obtain ⟨A, n, c⟩ := v
  simp only at hn
  subst hn
  have HB := Lib.hid h
  have HG := Lib.hid hg
  have HNIL := Lib.hid h.1.2.2.2.1
  obtain ⟨uu, huu⟩ : ∃ u, u = IntKind.u64.wrap num := ⟨_, rfl⟩
  have HU : Hid (0 ≤ uu ∧ uu < 18446744073709551616) := Lib.hid (by rw [huu, IntKind.wrap_u64]; omega)
  rw [← huu]
  have hcv : ∀ W, (convert 3 68 (.int .i64 num)).run Try.prog W = .ok (.int .u64 uu) W := fun W => by rw [huu]; simp [go_sem]
  clear h hg huu
  obtain ⟨E, hE⟩ : ∃ E, E = encB gen uu kind bs := ⟨_, rfl⟩
  have hkr : 0 ≤ kind ∧ kind < 256 := by subst hkd; cases bg <;> cases en <;> decide
  have hw8 : IntKind.u8.wrap (bs.length : Int) = bs.length := by rw [IntKind.wrap_u8]; omega
  rw [← hE]
  have HE := Lib.hid hE
  clear hE
  obtain ⟨i0, hinf, hz0, hz1, hz2⟩ := info_parts Try.infoByte
  have HI := Lib.hid hinf
  clear hinf
  go_enter Try.func47, Try.ntmps47
  obtain ⟨k1, hk1⟩ : ∃ k1 : Int, k1 = if bg then 1 else 0 := ⟨_, rfl⟩
  rw [← hk1] at hkd
  have HK1 := Lib.hid hk1
  have HKD := Lib.hid hkd
  clear hk1 hkd
  go_upto_if 14 with fail
  go_cut [11] (fun t wx => t = .int .u8 k1 ∧ w = wx)
  case first =>
    cases bg
    · go_wp2_with fail
      go_meet
      exact ⟨by rw [HK1.out]; rfl, rfl⟩
    · go_wp2_with fail
      go_meet
      exact ⟨by rw [HK1.out]; rfl, rfl⟩
  case rest =>
    obtain ⟨rfl, rfl⟩ := hcut
    go_upto_if 17 with fail
    go_cut [11] (fun t wx => t = .int .u8 kind ∧ w = wx)
    case first =>
      cases en
      · go_wp2_with fail
        go_meet
        exact ⟨by rw [HKD.out]; simp, rfl⟩
      · have hw : IntKind.u8.wrap (k1 + 2) = k1 + 2 := by
          have := HK1.out
          rw [IntKind.wrap_u8]
          cases bg <;> simp at this <;> omega
        go_wp2_with fail
        go_meet
        exact ⟨by rw [HKD.out]; simp, rfl⟩
    case rest =>
      obtain ⟨rfl, rfl⟩ := hcut
      go_wp2_with fail
      refine (numeral_any 2 uu w (by omega) HU.out).mono ?_
      rintro e w1 ⟨rfl, hb1, hw1⟩
      have HO1 : Hid (Owns w1 w.heap.size 5 1 byteE (.slice (some ⟨w.heap.size, 0, none⟩) 2 2) (beB uu 2)) := Lib.hid (by have := hb1.owns (Nat.le_refl _) (by rw [beB_len]; simp [maxLen]); rwa [beB_len] at this)
      have HW1 := Lib.hid hw1
      have hz1s := hw1.size
      clear hb1 hw1
      go_wp2_with (at_builtin; refine stop_mk ?_)
      have HW2 : Hid (Below w.heap.size w (w1.alloc (.cells #[.int .u8 kind, .int .u8 bs.length] 5))) := Lib.hid (HW1.out.alloc hz1s _)
      refine stop_out (wpList_append_reads (en := byteE) (sz := 1) _ rfl _ _ _ rfl byteE_len byteE_one w.heap.size 5 i0 _ 1 Try.underlying35 HI.out hz0 hz1 hz2 rfl (by omega) _ (beB uu 2) rfl (HO1.out.alloc _) (w1.heap.size + 1) (some ⟨w1.heap.size, 0, none⟩) 2 [kind, (bs.length : Int)] rfl (reads_bytes w1 [kind, (bs.length : Int)] _ _ rfl w1.heap.size rfl) (fun h => by cases h) (by rw [beB_len]; simp [maxLen]) (by rw [beB_len]; simp) HW2.out.size ?_)
      intro v3 w3 ho3 hg3 _ _
      obtain ⟨ys, hys⟩ : ∃ ys, ys = beB uu 2 ++ [kind, (bs.length : Int)] := ⟨_, rfl⟩
      rw [← hys] at ho3
      have hyl : ys.length = 4 := by rw [hys]; simp [beB_len]
      obtain ⟨A3, c3, rfl, _, _⟩ := ho3.shape
      have HW3 := Lib.hid (HW2.out.grown hg3 HW2.out.size (fun k e => HO1.out.base_le k e))
      have HO3 := Lib.hid ho3
      have HY := Lib.hid hys
      have HYL := Lib.hid hyl
      clear ho3 hg3 hys hyl
      go_wp2_with (at_builtin; refine stop_mk ?_)
      refine stop_out (wpList_append_reads (en := byteE) (sz := 1) _ rfl _ _ _ rfl byteE_len byteE_one w.heap.size 5 i0 _ 1 Try.underlying35 HI.out hz0 hz1 hz2 rfl (by omega) _ ys rfl HO3.out _ A c bs rfl (HB.out.step HW3.out).1.reads HNIL.out (by rw [HYL.out]; simp [maxLen]; omega) (by rw [HYL.out]; omega) HW3.out.size ?_)
      intro v4 w4 ho4 hg4 _ _
      obtain ⟨zs, hzs⟩ : ∃ zs, zs = ys ++ bs := ⟨_, rfl⟩
      rw [← hzs] at ho4
      have hzl : zs.length = 4 + bs.length := by rw [hzs]; simp [HYL.out]
      obtain ⟨A4, c4, rfl, _, _⟩ := ho4.shape
      have HW4 := Lib.hid (HW3.out.grown hg4 HW3.out.size (fun k e => HO3.out.base_le k e))
      have HO4 := Lib.hid ho4
      have HZ := Lib.hid hzs
      have HZL := Lib.hid hzl
      have hw12 : ((112 : Int) - (bs.length : Int)) = ((112 - bs.length : Nat) : Int) := by omega
      obtain ⟨m, hm⟩ : ∃ m, m = 112 - bs.length := ⟨_, rfl⟩
      rw [← hm] at hw12
      have HM := Lib.hid hm
      clear ho4 hg4 hzs hzl hm
      go_wp2_with (at_builtin; refine stop_mk ?_)
      refine stop_out (wpList_append_zeros _ rfl _ _ _ _ rfl w.heap.size 5 i0 .i64 _ Try.underlying35 Try.underlying3 HI.out hz0 hz1 hz2 _ zs rfl HO4.out m (by rw [← hw12]; rfl) (by rw [HZL.out, HM.out]; omega) HW4.out.size ?_)
      intro v5 w5 ho5 hg5 _
      obtain ⟨body, hbody⟩ : ∃ b, b = zs ++ List.replicate m 0 := ⟨_, rfl⟩
      rw [← hbody] at ho5
      have hbl : body.length = 116 := by rw [hbody]; simp [HZL.out, HM.out]; omega
      have HBD : Hid (body = bodyB uu kind bs) := Lib.hid (by rw [hbody, HZ.out, HY.out, HM.out]; unfold bodyB; simp)
      obtain ⟨A5, c5, rfl, _, _⟩ := ho5.shape
      rw [hbl] at ho5 ⊢
      have HW5 := Lib.hid (HW4.out.grown hg5 HW4.out.size (fun k e => HO4.out.base_le k e))
      have HO5 := Lib.hid ho5
      have HBL := Lib.hid hbl
      have hbb : ∀ b ∈ body, 0 ≤ b ∧ b < 256 := by rw [HBD.out]; exact body_byte uu kind hl hkr HB.out.2
      have HBB := Lib.hid hbb
      have hz5 := HW5.out.size
      clear ho5 hg5 hbody hbl hbb
      go_wp2_with fail
      refine (numeral_any 4 gen w5 (by omega) HG.out).mono ?_
      rintro e w6 ⟨rfl, hb6, hw6⟩
      have HO6 : Hid (Owns w6 w5.heap.size 5 1 byteE (.slice (some ⟨w5.heap.size, 0, none⟩) 4 4) (beB gen 4)) := Lib.hid (by have := hb6.owns (Nat.le_refl _) (by rw [beB_len]; simp [maxLen]); rwa [beB_len] at this)
      have HBY6 : Hid (By w6 (fun b => w.heap.size ≤ b) ⟨A5, 116, c5⟩ body) := Lib.hid ((HO5.out.by_ HBB.out).step hw6)
      have HO5b := Lib.hid (HO5.out.below hw6 (Nat.le_refl _))
      have HW6 := Lib.hid (HW5.out.trans (hw6.mono hz5))
      have HZ6 := Lib.hid hw6.size
      clear hb6 hw6
      go_wp2_with fail
      refine (checksum_any ⟨A5, 116, c5⟩ body w6 HBY6.out).mono ?_
      rintro e w7 ⟨rfl, rfl⟩
      obtain ⟨S, hS⟩ : ∃ S, S = sumB body := ⟨_, rfl⟩
      have hS1 : 0 ≤ S ∧ S < 4294967296 := by rw [hS]; exact sumB_range body
      rw [← hS]
      have HS := Lib.hid hS
      have hws : IntKind.u64.wrap S = S := by rw [IntKind.wrap_u64]; omega
      clear hS
      go_wp2_with fail
      refine (numeral_any 4 S w6 (by omega) ⟨hS1.1, by omega⟩).mono ?_
      rintro e w8 ⟨rfl, hb8, hw8⟩
      have HO8 : Hid (Owns w8 w6.heap.size 5 1 byteE (.slice (some ⟨w6.heap.size, 0, none⟩) 4 4) (beB S 4)) := Lib.hid (by have := hb8.owns (Nat.le_refl _) (by rw [beB_len]; simp [maxLen]); rwa [beB_len] at this)
      have HO6b := Lib.hid ((HO6.out.below hw8 (Nat.le_refl _)).base hz5)
      have HO5c := Lib.hid (HO5b.out.below hw8 (Nat.le_refl _))
      have HW8 := Lib.hid (HW6.out.trans (hw8.mono HW6.out.size))
      have HZ8 := Lib.hid hw8.size
      clear hb8 hw8
      go_wp2_with (at_builtin; refine stop_mk ?_)
      refine stop_out (wpList_append_reads (en := byteE) (sz := 1) _ rfl _ _ _ rfl byteE_len byteE_one w.heap.size 5 i0 _ 1 Try.underlying35 HI.out hz0 hz1 hz2 rfl (by omega) _ (beB gen 4) rfl HO6b.out _ (some ⟨w6.heap.size, 0, none⟩) 4 (beB S 4) (by rw [beB_len]; rfl) (HO8.out.reads byteE_len) (fun h => by cases h) (by rw [beB_len, beB_len]; simp [maxLen]) (by rw [beB_len, beB_len]; omega) HW8.out.size ?_)
      intro v9 w9 ho9 hg9 _ _
      obtain ⟨o1, ho1e⟩ : ∃ o1, o1 = beB gen 4 ++ beB S 4 := ⟨_, rfl⟩
      rw [← ho1e] at ho9
      have hol : o1.length = 8 := by rw [ho1e]; simp [beB_len]
      obtain ⟨A9, c9, rfl, _, _⟩ := ho9.shape
      have HW9 := Lib.hid (HW8.out.grown hg9 HW8.out.size (fun k e => HO6b.out.base_le k e))
      have HO9 := Lib.hid ho9
      have HO5d := Lib.hid (HO5c.out.kept hg9 (fun g hgo e => by have h1 := HO5.out.lt g hgo; have h2 : w5.heap.size ≤ g := HO6.out.base_le g e; omega))
      have HOE := Lib.hid ho1e
      have HOL := Lib.hid hol
      clear ho9 hg9 ho1e hol
      go_wp2_with (at_builtin; refine stop_mk ?_)
      refine stop_out (wpList_append_reads (en := byteE) (sz := 1) _ rfl _ _ _ rfl byteE_len byteE_one w.heap.size 5 i0 _ 1 Try.underlying35 HI.out hz0 hz1 hz2 rfl (by omega) _ o1 rfl HO9.out _ A5 c5 body (by rw [HBL.out]; rfl) (HO5d.out.reads byteE_len) (fun h => by obtain ⟨A', c', e1, e2, _⟩ := HO5d.out.shape; simp only [Value.slice.injEq] at e1; rw [e1.2.2]; exact e2 (e1.1 ▸ h)) (by rw [HOL.out, HBL.out]; simp [maxLen]) (by rw [HOL.out, HBL.out]; omega) HW9.out.size ?_)
      intro v10 w10 ho10 hg10 _ _
      obtain ⟨o2, ho2e⟩ : ∃ o2, o2 = o1 ++ body := ⟨_, rfl⟩
      rw [← ho2e] at ho10
      have hol2 : o2.length = 124 := by rw [ho2e]; simp [HOL.out, HBL.out]
      obtain ⟨A10, c10, rfl, _, _⟩ := ho10.shape
      have HW10 := Lib.hid (HW9.out.grown hg10 HW9.out.size (fun k e => HO9.out.base_le k e))
      have HO10 := Lib.hid ho10
      have HOE2 := Lib.hid ho2e
      have HOL2 := Lib.hid hol2
      clear ho10 hg10 ho2e hol2
      go_wp2_with fail
      refine (numeral_any 4 gen w10 (by omega) HG.out).mono ?_
      rintro e w11 ⟨rfl, hb11, hw11⟩
      have HO11 : Hid (Owns w11 w10.heap.size 5 1 byteE (.slice (some ⟨w10.heap.size, 0, none⟩) 4 4) (beB gen 4)) := Lib.hid (by have := hb11.owns (Nat.le_refl _) (by rw [beB_len]; simp [maxLen]); rwa [beB_len] at this)
      have HO10b := Lib.hid (HO10.out.below hw11 (Nat.le_refl _))
      have HW11 := Lib.hid (HW10.out.trans (hw11.mono HW10.out.size))
      clear hb11 hw11
      go_wp2_with (at_builtin; refine stop_mk ?_)
      refine stop_out (wpList_append_reads (en := byteE) (sz := 1) _ rfl _ _ _ rfl byteE_len byteE_one w.heap.size 5 i0 _ 1 Try.underlying35 HI.out hz0 hz1 hz2 rfl (by omega) _ o2 rfl HO10b.out _ (some ⟨w10.heap.size, 0, none⟩) 4 (beB gen 4) (by rw [beB_len]; rfl) (HO11.out.reads byteE_len) (fun h => by cases h) (by rw [HOL2.out, beB_len]; simp [maxLen]) (by rw [HOL2.out, beB_len]; omega) HW11.out.size ?_)
      intro v12 w12 ho12 hg12 _ _
      have he : o2 ++ beB gen 4 = E := by rw [HE.out, HOE2.out, HOE.out, HS.out, HBD.out]; unfold encB; simp
      rw [he] at ho12
      obtain ⟨A12, c12, rfl, _, _⟩ := ho12.shape
      have HW12 := Lib.hid (HW11.out.grown hg12 HW11.out.size (fun k e => HO10b.out.base_le k e))
      have HO12 := Lib.hid ho12
      clear ho12 hg12 he
      go_wp2_with fail
      go_ret
      exact ⟨⟨⟨A12, E.length, c12⟩, rfl, HO12.out.by_ (by rw [HE.out]; exact enc_byte gen uu kind hl hkr HB.out.2)⟩, HW12.out⟩
end Go.Proofs.Ytgbkhmoplocmkaa
