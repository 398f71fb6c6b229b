/- TopDegree, what its proof leans on: the texts TqF. -/
import Derived.Test.YtalmbigebjbaoaaGreatDoorM48
import Derived.Test.YtalmbigebjbaoaaGreatDoorM46
import Derived.Test.YtalmbigebjbaoaaGreatDoorM45
import Derived.Test.YtalmbigebjbaoaaGreatDoorM13
import Derived.Deep.Cut
import Derived.Deep.CutBlock
import Derived.BigQuiet
namespace Go.Proofs.YtalmbigebjbaoaaGreatDoor
open Go.RowKit Go.Shelf
set_option linter.unusedSimpArgs false
set_option linter.unusedVariables false
theorem recF_len (d : Wd) (student term known : Int) : (ofR d student term known).length ≤ 1024 * d.fs.length := by
 unfold ofR
 split
 ·unfold recF
  rw [sortA_len]
  exact Nat.le_trans (recTo_len d student term known _) (Nat.mul_le_mul_left _ (numsF_len d.fs known))
 ·simp
theorem audit_bd {Q : Pg} {l : List At} {us : List Us} {M : Int} {cs : List Bool} (hu : UOk Q l us) (h : auditE Q l us M cs = 0) : 0 ≤ M ∧ M ≤ 640000 := by
 obtain ⟨h1, h2, _⟩ := audit_parts h
 have h3 := miss_nonneg h1
 obtain ⟨hcr, hlen, _, _⟩ := good_credits (allow_zero h1).1
 have h4 := totR_bd Q.reqs hcr
 have h5 := usT_pos us (fun u m => (hu.one u m).2.2.1.1)
 omega
theorem dgOf_any {n₀ : Nat} (d : Wd) (student num term known : Int) (w : World) (hd : d.Ok w (fun k => k < n₀)) (hki : KindsAt w) (h0 : 0 < n₀) (hn : n₀ ≤ w.heap.size) (hf : FewW d) (hv : ∀ f ∈ d.fs, f.val ≤ 9223372036854775807) (hps : ∀ x ∈ d.ps, ∀ q ∈ x.p.reqs, q.fr.length ≤ 1048576) :
 Calls Tryz.prog 6 #[d.v, .int .i64 student, .int .i64 num, .int .i64 term, .int .i64 known] w fun e w' => OfOut d student num term known w w' e ∧ Below w.heap.size w w' := by
 have h40 := hf.fs
 cases hpf : progF d num term known with
 | none => exact dgOf_none d student num term known w hd hki h0 hn (by omega) hf.cs hv hpf
 | some x => exact dgOf_some d student num term known w hd hki h0 hn (by omega) hf.cs hv x hpf ⟨hf.ps x (progF_mem hpf), hps x (progF_mem hpf)⟩ (Nat.le_trans (recF_len d student term known) (by omega))
set_option maxRecDepth 100000 in
set_option maxHeartbeats 16000000 in
theorem TopDegree_any {w : World} (d : Wd) (hd0 : d.Ok w (fun k => k < w.heap.size)) (hps : ∀ x ∈ d.ps, ∀ q ∈ x.p.reqs, q.fr.length ≤ 1048576) (hv : ∀ f ∈ d.fs, f.val ≤ 9223372036854775807) (hki : KindsAt w) (student num term known : Int) (vs : List Us) (D : Option Addr) (dd : Nat) (hu : Reads w w.heap.size D 3 Us.enc vs) (byn : Int) :
 Calls Tryz.prog 3 #[d.v, .int .i64 student, .int .i64 num, .int .i64 term, .int .i64 known, .slice D vs.length dd, .int .i64 byn] w fun e w' => e = .returned (.bool true) ∧ Below w.heap.size w w' := by
 have hw0 : 0 < w.heap.size := cell_in (hki 1 0 (.bool false) rfl)
 obtain ⟨n₀, hn₀⟩ : ∃ n, n = w.heap.size := ⟨_, rfl⟩
 have hd : d.Ok w (fun k => k < n₀) := by rw [hn₀]; exact hd0
 have HD := Lib.hid hd
 have HKI := Lib.hid hki
 have HU := Lib.hid hu
 have hn0 : 0 < n₀ := by omega
 have HN : Hid (n₀ = w.heap.size) := Lib.hid hn₀
 have HPS := Lib.hid hps
 have HV := Lib.hid hv
 obtain ⟨bt, hbt⟩ : ∃ t, t = bits .and .i64 byn 7 := ⟨_, rfl⟩
 have hl3 := low3 byn
 rw [← hbt] at hl3
 have HBT := Lib.hid hbt
 unfold Wd.v
 clear hd hki hu hd0 hn₀ hps hv hbt
 go_enter Tryz.func3, Tryz.ntmps3
 go_wp2_with fail
 obtain ⟨W0, hW0⟩ : ∃ X, X = w.alloc (.cells #[.slice d.c.a d.c.n d.c.c, .slice d.p.a d.p.n d.p.c, .slice d.y.a d.y.n d.y.c, .slice d.f.a d.f.n d.f.c] 29) := ⟨_, rfl⟩
 have H0 : Hid (Bx W0 w.heap.size d.enc) := Lib.hid (by rw [hW0]; exact Bx.new w d.enc _)
 have GW : Hid (Below w.heap.size w W0) := Lib.hid (by rw [hW0]; exact (Below.refl _ _).alloc (Nat.le_refl _) _)
 rw [← hW0]
 clear hW0
 refine (topSane_any W0).mono ?_
 rintro e w1 ⟨rfl, hb1⟩
 have H0 := Lib.hid (H0.out.step hb1)
 have GW := Lib.hid (GW.out.trans (hb1.mono GW.out.size))
 clear hb1
 obtain ⟨wd_0, wd_1, wd_2⟩ := H0.out
 have wd0 := wd_0 0 _ rfl
 have wd1 := wd_0 1 _ rfl
 have wd2 := wd_0 2 _ rfl
 have wd3 := wd_0 3 _ rfl
 clear wd_0 wd_1
 go_wp2_with fail
 clear wd0 wd1 wd2 wd3 wd_2
 have HFW := Lib.hid (few14_any d w1 (HD.out.step GW.out))
 refine (HFW.out).mono ?_
 rintro e w2 ⟨⟨b, rfl, hfew⟩, hb2⟩
 have H0 := Lib.hid (H0.out.step hb2)
 have GW := Lib.hid (GW.out.trans (hb2.mono GW.out.size))
 clear hb2
 have HFB := Lib.hid hfew
 clear hfew
 cases b
 ·go_wp2_with fail
  go_ret
  exact ⟨rfl, GW.out⟩
 have hFW : FewW d := HFB.out (by first | rfl | trivial)
 have HFF := Lib.hid hFW
 clear hFW
 by_cases hv12 : 12 < vs.length
 ·go_wp2_with fail
  go_ret
  exact ⟨rfl, GW.out⟩
 obtain ⟨wd_0, wd_1, wd_2⟩ := H0.out
 have wd0 := wd_0 0 _ rfl
 have wd1 := wd_0 1 _ rfl
 have wd2 := wd_0 2 _ rfl
 have wd3 := wd_0 3 _ rfl
 clear wd_0 wd_1
 have HOF := Lib.hid (dgOf_any d student num term known w2 (HD.out.step GW.out) (HKI.out.step GW.out) hn0 (by rw [HN.out]; exact GW.out.size) HFF.out HV.out HPS.out)
 go_wp2_with fail
 clear wd0 wd1 wd2 wd3 wd_2
 refine HOF.out.mono ?_
 rintro e w3 ⟨ho, hb3⟩
 have HZ2 := Lib.hid hb3.size
 have H0 := Lib.hid (H0.out.step hb3)
 have GW := Lib.hid (GW.out.trans (hb3.mono GW.out.size))
 clear hb3 HOF
 rcases ho with ⟨vR, code, rfl, hcode⟩ | ho
 ·skip
  have HCO := Lib.hid hcode
  clear hcode
  go_upto_region 6 with fail
  obtain ⟨bA, hbA⟩ : ∃ b, b = w3.heap.size := ⟨_, rfl⟩
  obtain ⟨W4, hW4⟩ : ∃ X, X = w3.alloc (.cells #[.slice none 0 0, .int .i64 0, .slice none 0 0] 35) := ⟨_, rfl⟩
  have hst : Below w3.heap.size w3 W4 := by rw [hW4]; exact (Below.refl _ _).alloc (Nat.le_refl _) _
  have GA : Hid (Bx W4 bA [.slice none 0 0, .int .i64 0, .slice none 0 0]) := Lib.hid (by rw [hW4, hbA]; exact Bx.new w3 [.slice none 0 0, .int .i64 0, .slice none 0 0] _)
  have H0 := Lib.hid (H0.out.step hst)
  have GW := Lib.hid (GW.out.trans (hst.mono GW.out.size))
  rw [← hW4]
  try rw [← hbA]
  have HZbA := Lib.hid hbA
  clear hW4 hbA hst
  have HPG := Lib.hid (bkProgramme_any d num term known W4 (HD.out.step GW.out) (by have := HFF.out.fs; omega))
  obtain ⟨wd_0, wd_1, wd_2⟩ := H0.out
  have wd0 := wd_0 0 _ rfl
  have wd1 := wd_0 1 _ rfl
  have wd2 := wd_0 2 _ rfl
  have wd3 := wd_0 3 _ rfl
  clear wd_0 wd_1
  go_wp2_with fail
  clear wd0 wd1 wd2 wd3 wd_2
  by_cases hc0 : code = 0
  ·skip
   have hpf : progF d num term known = none := HCO.out.resolve_right (fun h => h hc0)
   rw [hpf] at HPG
   subst hc0
   clear hpf
   refine HPG.out.mono ?_
   rintro e w5 ⟨⟨s, rfl, _⟩, hb5⟩
   have H0 := Lib.hid (H0.out.step hb5)
   have GW := Lib.hid (GW.out.trans (hb5.mono GW.out.size))
   have GA := Lib.hid (GA.out.step hb5)
   clear hb5
   obtain ⟨a_0, a_1, a_2⟩ := GA.out
   have a0 := a_0 0 _ rfl
   have a1 := a_0 1 _ rfl
   have a2 := a_0 2 _ rfl
   clear a_0 a_1
   go_wp2_with fail
   go_ret
   exact ⟨rfl, GW.out.alloc GW.out.size _⟩
  have e1 : (code == 0) = false := by simpa using hc0
  have e2 : (code != 0) = true := by simpa using hc0
  cases hpf : progF d num term known with
  | none =>
    rw [hpf] at HPG
    clear hpf
    refine HPG.out.mono ?_
    rintro e w5 ⟨⟨s, rfl, _⟩, hb5⟩
    have H0 := Lib.hid (H0.out.step hb5)
    have GW := Lib.hid (GW.out.trans (hb5.mono GW.out.size))
    have GA := Lib.hid (GA.out.step hb5)
    clear hb5
    obtain ⟨a_0, a_1, a_2⟩ := GA.out
    have a0 := a_0 0 _ rfl
    have a1 := a_0 1 _ rfl
    have a2 := a_0 2 _ rfl
    clear a_0 a_1
    go_wp2_with fail
    go_ret
    exact ⟨rfl, GW.out.alloc GW.out.size _⟩
  | some x =>
    rw [hpf] at HPG
    clear hpf
    obtain ⟨p, ⟨rA, rn, rc⟩⟩ := x
    have hpg := HPG.out
    simp only [Px.v, pgV] at hpg
    have HPG := Lib.hid hpg
    clear hpg
    refine HPG.out.mono ?_
    rintro e w5 ⟨⟨s, rfl, _⟩, hb5⟩
    have H0 := Lib.hid (H0.out.step hb5)
    have GW := Lib.hid (GW.out.trans (hb5.mono GW.out.size))
    have GA := Lib.hid (GA.out.step hb5)
    clear hb5
    obtain ⟨a_0, a_1, a_2⟩ := GA.out
    have a0 := a_0 0 _ rfl
    have a1 := a_0 1 _ rfl
    have a2 := a_0 2 _ rfl
    clear a_0 a_1
    go_wp2_with fail
    go_ret
    exact ⟨rfl, GW.out.alloc GW.out.size _⟩
 obtain ⟨x, hpf, hof, hcn, hee, hme, hce, us, M, cs, D2, C, d2, cc, vR, rfl, huo, hae, hM, hul, hctl, hus, hcs⟩ := ho
 have hgp := (progF_spec hpf).2.2.1
 rw [wide_ext hgp] at huo hae
 have hmem := progF_mem hpf
 have HXO : Hid (Px.Ok w (fun k => k < n₀) x) := Lib.hid (HD.out.po x hmem)
 have h70 := HFF.out.ps x hmem
 have HXQ : Hid (∀ q ∈ x.p.reqs, q.fr.length ≤ 1048576) := Lib.hid (HPS.out x hmem)
 obtain ⟨p, ⟨rA, rn, rc⟩⟩ := x
 simp only at hgp h70 HXQ hM hce huo hae hpf
 obtain ⟨l, hl⟩ : ∃ l, l = ofR d student term known := ⟨_, rfl⟩
 have hll : l.length ≤ 100000 := by
  rw [hl]
  have := recF_len d student term known
  have := HFF.out.fs
  omega
 rw [← hl] at hcn hee hme hce huo hae hctl
 obtain ⟨ct, zc, hcz⟩ : ∃ ct zc, (ct, zc) = cntE d student term known l := ⟨_, _, rfl⟩
 rw [← hcz] at hcn hee hme hce huo hae hctl
 simp only at hcn hee hme hce huo hae hctl
 subst hcn
 obtain ⟨en, ee, hE⟩ : ∃ a b, (a, b) = earnedA ct := ⟨_, _, rfl⟩
 obtain ⟨⟨mn, md⟩, me, hMe⟩ : ∃ a b, (a, b) = meanA ct := ⟨_, _, rfl⟩
 rw [← hE] at hee
 rw [← hMe] at hme hce
 simp only at hee hme hce
 subst hee hme
 obtain ⟨cv, ce, hCe⟩ : ∃ a b, (a, b) = cmpP ⟨mn, md⟩ p.mean := ⟨_, _, rfl⟩
 rw [← hCe] at hce
 simp only at hce
 subst hce
 have HL := Lib.hid hl
 have HCZ := Lib.hid hcz
 have HEA := Lib.hid hE
 have HME := Lib.hid hMe
 have HCE := Lib.hid hCe
 have hmi2 := meanA_i64_ ct
 rw [← hMe] at hmi2
 have HMI2 := Lib.hid hmi2
 have HMI : Hid (p.mean.i64) := Lib.hid HXO.out.2
 have HPF := Lib.hid hpf
 have HUO := Lib.hid huo
 have HAE := Lib.hid hae
 have HUS := Lib.hid (hus.mono (Q := everyB) (fun _ _ => trivial))
 have HCS := Lib.hid (hcs.mono (Q := everyB) (fun _ _ => trivial))
 have hMb := audit_bd huo hae
 have HMM := Lib.hid hM
 have hul2 : us.length ≤ 100000 := by omega
 obtain ⟨BB, hBB⟩ : ∃ b, b = (decide (M = 0) && (decide (p.earn ≤ en) && decide (0 ≤ cv))) := ⟨_, rfl⟩
 have hob : Ending.returned (.tuple #[auV ⟨D2, us.length, d2⟩ M ⟨C, cs.length, cc⟩, .bool (decide (M = 0) && (decide (p.earn ≤ (earnedA (cntE d student term known (ofR d student term known)).1).1) && decide (0 ≤ (cmpP (meanA (cntE d student term known (ofR d student term known)).1).1 p.mean).1))), vR, .int .i64 0]) = Ending.returned (.tuple #[.agg #[.slice D2 us.length d2, .int .i64 M, .slice C cs.length cc], .bool BB, vR, .int .i64 0]) := by
  rw [← hl, ← hcz]
  show Ending.returned (.tuple #[_, .bool (decide (M = 0) && (decide (p.earn ≤ (earnedA ct).1) && decide (0 ≤ (cmpP (meanA ct).1 p.mean).1))), vR, .int .i64 0]) = _
  rw [← hE, ← hMe]
  show Ending.returned (.tuple #[_, .bool (decide (M = 0) && (decide (p.earn ≤ en) && decide (0 ≤ (cmpP ⟨mn, md⟩ p.mean).1))), vR, .int .i64 0]) = _
  rw [← hCe, hBB]
  rfl
 rw [hob]
 have HBB := Lib.hid hBB
 clear hob hBB hl hcz hE hMe hCe hmi2 hpf huo hae hus hcs hM hul hgp hmem
 go_upto_region 6 with fail
 obtain ⟨bA, hbA⟩ : ∃ b, b = w3.heap.size := ⟨_, rfl⟩
 obtain ⟨W4, hW4⟩ : ∃ X, X = w3.alloc (.cells #[.slice D2 us.length d2, .int .i64 M, .slice C cs.length cc] 35) := ⟨_, rfl⟩
 have hst : Below w3.heap.size w3 W4 := by rw [hW4]; exact (Below.refl _ _).alloc (Nat.le_refl _) _
 have GA : Hid (Bx W4 bA [.slice D2 us.length d2, .int .i64 M, .slice C cs.length cc]) := Lib.hid (by rw [hW4, hbA]; exact Bx.new w3 [.slice D2 us.length d2, .int .i64 M, .slice C cs.length cc] _)
 have H0 := Lib.hid (H0.out.step hst)
 have GW := Lib.hid (GW.out.trans (hst.mono GW.out.size))
 have HUS := Lib.hid (HUS.out.step hst)
 have HCS := Lib.hid (HCS.out.step hst)
 rw [← hW4]
 try rw [← hbA]
 have HZbA := Lib.hid hbA
 clear hW4 hbA hst
 have hpg := bkProgramme_any d num term known W4 (HD.out.step GW.out) (by have := HFF.out.fs; omega)
 rw [HPF.out] at hpg
 simp only [Px.v, pgV] at hpg
 have HPG := Lib.hid hpg
 clear hpg
 obtain ⟨wd_0, wd_1, wd_2⟩ := H0.out
 have wd0 := wd_0 0 _ rfl
 have wd1 := wd_0 1 _ rfl
 have wd2 := wd_0 2 _ rfl
 have wd3 := wd_0 3 _ rfl
 clear wd_0 wd_1
 go_wp2_with fail
 clear wd0 wd1 wd2 wd3 wd_2
 refine HPG.out.mono ?_
 rintro e w5 ⟨⟨⟨sA, sn, sc⟩, rfl, _⟩, hb5⟩
 have H0 := Lib.hid (H0.out.step hb5)
 have GW := Lib.hid (GW.out.trans (hb5.mono GW.out.size))
 have HUS := Lib.hid (HUS.out.step hb5)
 have HCS := Lib.hid (HCS.out.step hb5)
 have GA := Lib.hid (GA.out.step hb5)
 clear hb5 HPG
 go_upto_region 7 with fail
 obtain ⟨bP, hbP⟩ : ∃ b, b = w5.heap.size := ⟨_, rfl⟩
 obtain ⟨W6, hW6⟩ : ∃ X, X = w5.alloc (.cells #[.string p.nm, .int .i64 p.number, .int .i64 p.uses, .int .i64 p.earn, .int .i64 p.mean.num, .int .i64 p.mean.den, .slice rA rn rc] 44) := ⟨_, rfl⟩
 have hst : Below w5.heap.size w5 W6 := by rw [hW6]; exact (Below.refl _ _).alloc (Nat.le_refl _) _
 have GP : Hid (Bx W6 bP [.string p.nm, .int .i64 p.number, .int .i64 p.uses, .int .i64 p.earn, .int .i64 p.mean.num, .int .i64 p.mean.den, .slice rA rn rc]) := Lib.hid (by rw [hW6, hbP]; exact Bx.new w5 [.string p.nm, .int .i64 p.number, .int .i64 p.uses, .int .i64 p.earn, .int .i64 p.mean.num, .int .i64 p.mean.den, .slice rA rn rc] _)
 have H0 := Lib.hid (H0.out.step hst)
 have GW := Lib.hid (GW.out.trans (hst.mono GW.out.size))
 have HUS := Lib.hid (HUS.out.step hst)
 have HCS := Lib.hid (HCS.out.step hst)
 have GA := Lib.hid (GA.out.step hst)
 rw [← hW6]
 try rw [← hbP]
 have HZbP := Lib.hid hbP
 clear hW6 hbP hst
 have hrc := rcOf_any d student term known W6 (HD.out.step GW.out) (HKI.out.step GW.out) hn0 (by rw [HN.out]; exact GW.out.size) (by have := HFF.out.fs; omega) HFF.out.cs HV.out
 rw [hof, ← HL.out] at hrc
 simp only [if_true] at hrc
 have HRC := Lib.hid hrc
 clear hrc
 obtain ⟨wd_0, wd_1, wd_2⟩ := H0.out
 have wd0 := wd_0 0 _ rfl
 have wd1 := wd_0 1 _ rfl
 have wd2 := wd_0 2 _ rfl
 have wd3 := wd_0 3 _ rfl
 clear wd_0 wd_1
 go_wp2_with fail
 clear wd0 wd1 wd2 wd3 wd_2
 refine HRC.out.mono ?_
 rintro e w7 ⟨⟨tA, tn, tc⟩, v7, rfl, ht7, _, hb7⟩
 obtain ⟨tA2, tc2, hte, hnt, _⟩ := ht7.shape
 simp only [Value.slice.injEq] at hte
 obtain ⟨rfl, rfl, rfl⟩ := hte
 have HTO := Lib.hid ht7
 have H0 := Lib.hid (H0.out.step hb7)
 have GW := Lib.hid (GW.out.trans (hb7.mono GW.out.size))
 have HUS := Lib.hid (HUS.out.step hb7)
 have HCS := Lib.hid (HCS.out.step hb7)
 have GA := Lib.hid (GA.out.step hb7)
 have GP := Lib.hid (GP.out.step hb7)
 clear hb7 ht7 HRC
 go_upto_region 10 with fail
 obtain ⟨bR, hbR⟩ : ∃ b, b = w7.heap.size := ⟨_, rfl⟩
 obtain ⟨W8, hW8⟩ : ∃ X, X = w7.alloc (.cells #[.int .i64 student, .slice tA l.length tc] 49) := ⟨_, rfl⟩
 have hst : Below w7.heap.size w7 W8 := by rw [hW8]; exact (Below.refl _ _).alloc (Nat.le_refl _) _
 have GR : Hid (Bx W8 bR [.int .i64 student, .slice tA l.length tc]) := Lib.hid (by rw [hW8, hbR]; exact Bx.new w7 [.int .i64 student, .slice tA l.length tc] _)
 have H0 := Lib.hid (H0.out.step hst)
 have GW := Lib.hid (GW.out.trans (hst.mono GW.out.size))
 have HUS := Lib.hid (HUS.out.step hst)
 have HCS := Lib.hid (HCS.out.step hst)
 have GA := Lib.hid (GA.out.step hst)
 have GP := Lib.hid (GP.out.step hst)
 have HTO := Lib.hid (HTO.out.below hst (Nat.le_refl _))
 rw [← hW8]
 try rw [← hbR]
 have HZbR := Lib.hid hbR
 clear hW8 hbR hst
 have hrk := rcCounted_any d student l tA tc term known W8 (HD.out.step GW.out) (HKI.out.step GW.out) hn0 (by rw [HN.out]; exact GW.out.size) (HTO.out.reads At.enc_len) hll (by have := HFF.out.fs; omega) HFF.out.cs
 rw [← HCZ.out] at hrk
 simp only at hrk
 have HRK := Lib.hid hrk
 clear hrk
 obtain ⟨wd_0, wd_1, wd_2⟩ := H0.out
 have wd0 := wd_0 0 _ rfl
 have wd1 := wd_0 1 _ rfl
 have wd2 := wd_0 2 _ rfl
 have wd3 := wd_0 3 _ rfl
 clear wd_0 wd_1
 obtain ⟨r_0, r_1, r_2⟩ := GR.out
 have r0 := r_0 0 _ rfl
 have r1 := r_0 1 _ rfl
 clear r_0 r_1
 go_wp2_with fail
 clear wd0 wd1 wd2 wd3 wd_2 r0 r1 r_2
 refine HRK.out.mono ?_
 rintro e w9 ⟨u, v9, rfl, hu9, _, hb9⟩
 obtain ⟨uA, uc, rfl, hnu, hum⟩ := hu9.shape
 have HCT : Hid (SlR w9 everyB 5 At.enc ⟨uA, ct.length, uc⟩ ct) := Lib.hid ((SlR.of_owns At.enc_len hu9).mono (fun _ _ => trivial))
 have H0 := Lib.hid (H0.out.step hb9)
 have GW := Lib.hid (GW.out.trans (hb9.mono GW.out.size))
 have HUS := Lib.hid (HUS.out.step hb9)
 have HCS := Lib.hid (HCS.out.step hb9)
 have GA := Lib.hid (GA.out.step hb9)
 have GP := Lib.hid (GP.out.step hb9)
 have HTO := Lib.hid (HTO.out.below hb9 (Nat.le_refl _))
 have GR := Lib.hid (GR.out.step hb9)
 clear hb9 hu9 HRK
 have hea := Earned_any ct uA uc w9 HCT.out.reads (by omega)
 rw [← HEA.out] at hea
 have HEN := Lib.hid hea
 clear hea
 go_wp2_with fail
 refine (HEN.out).mono ?_
 rintro e w10 ⟨rfl, hb10⟩
 have H0 := Lib.hid (H0.out.step hb10)
 have GW := Lib.hid (GW.out.trans (hb10.mono GW.out.size))
 have HUS := Lib.hid (HUS.out.step hb10)
 have HCS := Lib.hid (HCS.out.step hb10)
 have GA := Lib.hid (GA.out.step hb10)
 have GP := Lib.hid (GP.out.step hb10)
 have HTO := Lib.hid (HTO.out.below hb10 (Nat.le_refl _))
 have GR := Lib.hid (GR.out.step hb10)
 have HCT := Lib.hid (HCT.out.step hb10)
 clear hb10
 clear HEN
 have hme := Mean_any ct uA uc w10 HCT.out.reads (by omega)
 rw [← HME.out] at hme
 simp only [Ra.v] at hme
 have HMN := Lib.hid hme
 clear hme
 go_wp2_with fail
 refine (HMN.out).mono ?_
 rintro e w11 ⟨rfl, hb11⟩
 have H0 := Lib.hid (H0.out.step hb11)
 have GW := Lib.hid (GW.out.trans (hb11.mono GW.out.size))
 have HUS := Lib.hid (HUS.out.step hb11)
 have HCS := Lib.hid (HCS.out.step hb11)
 have GA := Lib.hid (GA.out.step hb11)
 have GP := Lib.hid (GP.out.step hb11)
 have HTO := Lib.hid (HTO.out.below hb11 (Nat.le_refl _))
 have GR := Lib.hid (GR.out.step hb11)
 have HCT := Lib.hid (HCT.out.step hb11)
 clear hb11
 clear HMN
 go_upto_region 13 with fail
 obtain ⟨bM, hbM⟩ : ∃ b, b = w11.heap.size := ⟨_, rfl⟩
 obtain ⟨W12, hW12⟩ : ∃ X, X = w11.alloc (.cells #[.int .i64 mn, .int .i64 md] 41) := ⟨_, rfl⟩
 have hst : Below w11.heap.size w11 W12 := by rw [hW12]; exact (Below.refl _ _).alloc (Nat.le_refl _) _
 have GM : Hid (Bx W12 bM [.int .i64 mn, .int .i64 md]) := Lib.hid (by rw [hW12, hbM]; exact Bx.new w11 [.int .i64 mn, .int .i64 md] _)
 have H0 := Lib.hid (H0.out.step hst)
 have GW := Lib.hid (GW.out.trans (hst.mono GW.out.size))
 have HUS := Lib.hid (HUS.out.step hst)
 have HCS := Lib.hid (HCS.out.step hst)
 have GA := Lib.hid (GA.out.step hst)
 have GP := Lib.hid (GP.out.step hst)
 have HTO := Lib.hid (HTO.out.below hst (Nat.le_refl _))
 have GR := Lib.hid (GR.out.step hst)
 have HCT := Lib.hid (HCT.out.step hst)
 rw [← hW12]
 try rw [← hbM]
 have HZbM := Lib.hid hbM
 clear hW12 hbM hst
 have hcp := RaCompare_any ⟨mn, md⟩ p.mean HMI2.out HMI.out W12
 rw [← HCE.out] at hcp
 simp only [Ra.v] at hcp
 have HCP := Lib.hid hcp
 clear hcp
 obtain ⟨m_0, m_1, m_2⟩ := GM.out
 have m0 := m_0 0 _ rfl
 have m1 := m_0 1 _ rfl
 clear m_0 m_1
 obtain ⟨p_0, p_1, p_2⟩ := GP.out
 have p0 := p_0 0 _ rfl
 have p1 := p_0 1 _ rfl
 have p2 := p_0 2 _ rfl
 have p3 := p_0 3 _ rfl
 have p4 := p_0 4 _ rfl
 have p5 := p_0 5 _ rfl
 have p6 := p_0 6 _ rfl
 clear p_0 p_1
 go_wp2_with fail
 clear m0 m1 m_2 p0 p1 p2 p3 p4 p5 p6 p_2
 refine (HCP.out).mono ?_
 rintro e w13 ⟨rfl, hb13⟩
 have H0 := Lib.hid (H0.out.step hb13)
 have GW := Lib.hid (GW.out.trans (hb13.mono GW.out.size))
 have HUS := Lib.hid (HUS.out.step hb13)
 have HCS := Lib.hid (HCS.out.step hb13)
 have GA := Lib.hid (GA.out.step hb13)
 have GP := Lib.hid (GP.out.step hb13)
 have HTO := Lib.hid (HTO.out.below hb13 (Nat.le_refl _))
 have GR := Lib.hid (GR.out.step hb13)
 have HCT := Lib.hid (HCT.out.step hb13)
 have GM := Lib.hid (GM.out.step hb13)
 clear hb13
 clear HCP
 have hex := extended_any d p ⟨rA, rn, rc⟩ term known w13 (HD.out.step GW.out) (by have := HFF.out.fs; omega) (HXO.out.1.step GW.out) h70 HXQ.out
 simp only [pgV] at hex
 have HEX := Lib.hid hex
 clear hex
 obtain ⟨wd_0, wd_1, wd_2⟩ := H0.out
 have wd0 := wd_0 0 _ rfl
 have wd1 := wd_0 1 _ rfl
 have wd2 := wd_0 2 _ rfl
 have wd3 := wd_0 3 _ rfl
 clear wd_0 wd_1
 obtain ⟨p_0, p_1, p_2⟩ := GP.out
 have p0 := p_0 0 _ rfl
 have p1 := p_0 1 _ rfl
 have p2 := p_0 2 _ rfl
 have p3 := p_0 3 _ rfl
 have p4 := p_0 4 _ rfl
 have p5 := p_0 5 _ rfl
 have p6 := p_0 6 _ rfl
 clear p_0 p_1
 go_wp2_with fail
 clear wd0 wd1 wd2 wd3 wd_2 p0 p1 p2 p3 p4 p5 p6 p_2
 refine HEX.out.mono ?_
 rintro e w14 ⟨⟨⟨qA, qn, qc⟩, rfl, hrq⟩, hb14⟩
 have HRQ := Lib.hid hrq
 have H0 := Lib.hid (H0.out.step hb14)
 have GW := Lib.hid (GW.out.trans (hb14.mono GW.out.size))
 have HUS := Lib.hid (HUS.out.step hb14)
 have HCS := Lib.hid (HCS.out.step hb14)
 have GA := Lib.hid (GA.out.step hb14)
 have GP := Lib.hid (GP.out.step hb14)
 have HTO := Lib.hid (HTO.out.below hb14 (Nat.le_refl _))
 have GR := Lib.hid (GR.out.step hb14)
 have HCT := Lib.hid (HCT.out.step hb14)
 have GM := Lib.hid (GM.out.step hb14)
 clear hb14 hrq HEX
 go_upto_region 15 with fail
 obtain ⟨bQ, hbQ⟩ : ∃ b, b = w14.heap.size := ⟨_, rfl⟩
 obtain ⟨W15, hW15⟩ : ∃ X, X = w14.alloc (.cells #[.string p.nm, .int .i64 p.number, .int .i64 p.uses, .int .i64 p.earn, .int .i64 p.mean.num, .int .i64 p.mean.den, .slice qA qn qc] 44) := ⟨_, rfl⟩
 have hst : Below w14.heap.size w14 W15 := by rw [hW15]; exact (Below.refl _ _).alloc (Nat.le_refl _) _
 have GQ : Hid (Bx W15 bQ [.string p.nm, .int .i64 p.number, .int .i64 p.uses, .int .i64 p.earn, .int .i64 p.mean.num, .int .i64 p.mean.den, .slice qA qn qc]) := Lib.hid (by rw [hW15, hbQ]; exact Bx.new w14 [.string p.nm, .int .i64 p.number, .int .i64 p.uses, .int .i64 p.earn, .int .i64 p.mean.num, .int .i64 p.mean.den, .slice qA qn qc] _)
 have H0 := Lib.hid (H0.out.step hst)
 have GW := Lib.hid (GW.out.trans (hst.mono GW.out.size))
 have HUS := Lib.hid (HUS.out.step hst)
 have HCS := Lib.hid (HCS.out.step hst)
 have GA := Lib.hid (GA.out.step hst)
 have GP := Lib.hid (GP.out.step hst)
 have HTO := Lib.hid (HTO.out.below hst (Nat.le_refl _))
 have GR := Lib.hid (GR.out.step hst)
 have HCT := Lib.hid (HCT.out.step hst)
 have GM := Lib.hid (GM.out.step hst)
 have HRQ := Lib.hid (HRQ.out.step hst)
 rw [← hW15]
 try rw [← hbQ]
 have HZbQ := Lib.hid hbQ
 clear hW15 hbQ hst
 have HC0 : Hid (∀ W, Below W15.heap.size W15 W → Calls Tryz.prog 14 #[.agg #[.string p.nm, .int .i64 p.number, .int .i64 p.uses, .int .i64 p.earn, .int .i64 p.mean.num, .int .i64 p.mean.den, .slice qA qn qc], .slice uA ct.length uc, .agg #[.slice D2 us.length d2, .int .i64 M, .slice C cs.length cc]] W fun e w' => e = .returned (.int .i64 0) ∧ Below W.heap.size W w') := Lib.hid (fun W hb => by
  have h := ProCheck_any (P := everyB) (extP d.fs term known p) ⟨qA, qn, qc⟩ ct uA uc us D2 d2 M cs C cc W ((HRQ.out.step hb).mono_ (fun _ _ => trivial)) HMI.out (HCT.out.step hb) (HUS.out.step hb).reads (HCS.out.step hb) hctl hul2
  rw [HAE.out] at h
  exact h)
 obtain ⟨q_0, q_1, q_2⟩ := GQ.out
 have q0 := q_0 0 _ rfl
 have q1 := q_0 1 _ rfl
 have q2 := q_0 2 _ rfl
 have q3 := q_0 3 _ rfl
 have q4 := q_0 4 _ rfl
 have q5 := q_0 5 _ rfl
 have q6 := q_0 6 _ rfl
 clear q_0 q_1
 obtain ⟨a_0, a_1, a_2⟩ := GA.out
 have a0 := a_0 0 _ rfl
 have a1 := a_0 1 _ rfl
 have a2 := a_0 2 _ rfl
 clear a_0 a_1
 go_wp2_with fail
 clear q0 q1 q2 q3 q4 q5 q6 q_2 a0 a1 a2 a_2
 refine (HC0.out _ (Below.refl _ _)).mono ?_
 rintro e w16 ⟨rfl, hb16⟩
 have H0 := Lib.hid (H0.out.step hb16)
 have GW := Lib.hid (GW.out.trans (hb16.mono GW.out.size))
 have HUS := Lib.hid (HUS.out.step hb16)
 have HCS := Lib.hid (HCS.out.step hb16)
 have GA := Lib.hid (GA.out.step hb16)
 have GP := Lib.hid (GP.out.step hb16)
 have HTO := Lib.hid (HTO.out.below hb16 (Nat.le_refl _))
 have GR := Lib.hid (GR.out.step hb16)
 have HCT := Lib.hid (HCT.out.step hb16)
 have GM := Lib.hid (GM.out.step hb16)
 have HRQ := Lib.hid (HRQ.out.step hb16)
 have GQ := Lib.hid (GQ.out.step hb16)
 clear hb16
 clear HC0
 obtain ⟨a_0, a_1, a_2⟩ := GA.out
 have a0 := a_0 0 _ rfl
 have a1 := a_0 1 _ rfl
 have a2 := a_0 2 _ rfl
 clear a_0 a_1
 obtain ⟨p_0, p_1, p_2⟩ := GP.out
 have p0 := p_0 0 _ rfl
 have p1 := p_0 1 _ rfl
 have p2 := p_0 2 _ rfl
 have p3 := p_0 3 _ rfl
 have p4 := p_0 4 _ rfl
 have p5 := p_0 5 _ rfl
 have p6 := p_0 6 _ rfl
 clear p_0 p_1
 go_upto_region 17 with fail
 go_cut [161] (fun t wx => t = .bool false ∧ wx = w16)
 case first =>
  by_cases m0 : M = 0
  ·have b1 : (M == 0) = true := by simpa using m0
   by_cases e0 : p.earn ≤ en
   ·obtain rfl : BB = decide (0 ≤ cv) := by rw [HBB.out]; simp [m0, e0]
    go_wp2_with fail
    go_meet
    exact ⟨by simp, rfl⟩
   ·obtain rfl : BB = false := by rw [HBB.out]; simp [m0, e0]
    go_wp2_with fail
    go_meet
    exact ⟨by simp, rfl⟩
  ·have b1 : (M == 0) = false := by simpa using m0
   obtain rfl : BB = false := by rw [HBB.out]; simp [m0]
   go_wp2_with fail
   go_meet
   exact ⟨by simp, rfl⟩
 case rest =>
  obtain ⟨rfl, hwc⟩ := hcut
  rw [hwc]
  clear hwc
  clear a0 a1 a2 a_2 p0 p1 p2 p3 p4 p5 p6 p_2
  have hal := Allowed_any (P := everyB) (extP d.fs term known p) ⟨qA, qn, qc⟩ ct uA uc vs D dd w16 (HRQ.out.mono_ (fun _ _ => trivial)) HMI.out HCT.out.reads ((HU.out.below GW.out).more GW.out.size) hctl (by omega)
  obtain ⟨al, hal2⟩ : ∃ a, a = allowP (extP d.fs term known p) ct vs := ⟨_, rfl⟩
  rw [← hal2] at hal
  have HAL := Lib.hid hal
  have HAL2 := Lib.hid hal2
  clear hal hal2
  obtain ⟨q_0, q_1, q_2⟩ := GQ.out
  have q0 := q_0 0 _ rfl
  have q1 := q_0 1 _ rfl
  have q2 := q_0 2 _ rfl
  have q3 := q_0 3 _ rfl
  have q4 := q_0 4 _ rfl
  have q5 := q_0 5 _ rfl
  have q6 := q_0 6 _ rfl
  clear q_0 q_1
  go_wp2_with fail
  clear q0 q1 q2 q3 q4 q5 q6 q_2
  refine HAL.out.mono ?_
  rintro e w17 ⟨he17, hb17⟩
  have hew : e = .returned (.int .i64 al) := he17
  subst hew
  have H0 := Lib.hid (H0.out.step hb17)
  have GW := Lib.hid (GW.out.trans (hb17.mono GW.out.size))
  have HUS := Lib.hid (HUS.out.step hb17)
  have HCS := Lib.hid (HCS.out.step hb17)
  have GA := Lib.hid (GA.out.step hb17)
  have GP := Lib.hid (GP.out.step hb17)
  have HTO := Lib.hid (HTO.out.below hb17 (Nat.le_refl _))
  have GR := Lib.hid (GR.out.step hb17)
  have HCT := Lib.hid (HCT.out.step hb17)
  have GM := Lib.hid (GM.out.step hb17)
  have HRQ := Lib.hid (HRQ.out.step hb17)
  have GQ := Lib.hid (GQ.out.step hb17)
  clear hb17 HAL he17
  by_cases hal0 : al = 0
  ·skip
   subst hal0
   have hal1 : allowP (extP d.fs term known p) ct vs = 0 := HAL2.out.symm
   have hms := Missing_any (P := everyB) (extP d.fs term known p) ⟨qA, qn, qc⟩ vs D dd w17 (HRQ.out.mono_ (fun _ _ => trivial)) HMI.out ((HU.out.below GW.out).more GW.out.size) (by omega)
   rw [miss_of_allow hal1] at hms
   obtain ⟨n9, hn9⟩ : ∃ n, n = totR (extP d.fs term known p).reqs - usT vs := ⟨_, rfl⟩
   rw [← hn9] at hms
   simp only at hms
   have hge : M ≤ n9 := by rw [hn9]; exact optimal_law HAE.out hal1
   have HMS := Lib.hid hms
   clear hms hn9 hal1
   obtain ⟨q_0, q_1, q_2⟩ := GQ.out
   have q0 := q_0 0 _ rfl
   have q1 := q_0 1 _ rfl
   have q2 := q_0 2 _ rfl
   have q3 := q_0 3 _ rfl
   have q4 := q_0 4 _ rfl
   have q5 := q_0 5 _ rfl
   have q6 := q_0 6 _ rfl
   clear q_0 q_1
   go_wp2_with fail
   clear q0 q1 q2 q3 q4 q5 q6 q_2
   refine (HMS.out).mono ?_
   rintro e w18 ⟨rfl, hb18⟩
   have H0 := Lib.hid (H0.out.step hb18)
   have GW := Lib.hid (GW.out.trans (hb18.mono GW.out.size))
   have HUS := Lib.hid (HUS.out.step hb18)
   have HCS := Lib.hid (HCS.out.step hb18)
   have GA := Lib.hid (GA.out.step hb18)
   have GP := Lib.hid (GP.out.step hb18)
   have HTO := Lib.hid (HTO.out.below hb18 (Nat.le_refl _))
   have GR := Lib.hid (GR.out.step hb18)
   have HCT := Lib.hid (HCT.out.step hb18)
   have GM := Lib.hid (GM.out.step hb18)
   have HRQ := Lib.hid (HRQ.out.step hb18)
   have GQ := Lib.hid (GQ.out.step hb18)
   clear hb18
   clear HMS
   obtain ⟨a_0, a_1, a_2⟩ := GA.out
   have a0 := a_0 0 _ rfl
   have a1 := a_0 1 _ rfl
   have a2 := a_0 2 _ rfl
   clear a_0 a_1
   go_upto_region 23 with fail
   clear a0 a1 a2 a_2
   have hw1 : wrap64 (1 + bt) = 1 + bt := IntWalk.wrap64_in _ ⟨by omega, by omega⟩
   have hw2 : wrap64 (M + (1 + bt)) = M + (1 + bt) := IntWalk.wrap64_in _ ⟨by omega, by omega⟩
   have hw3 : wrap64 (M - (1 + bt)) = M - (1 + bt) := IntWalk.wrap64_in _ ⟨by omega, by omega⟩
   have hbe := HBT.out.symm
   have HNE1 : Hid (M + (1 + bt) ≠ M) := Lib.hid (by omega)
   have HNE2 : Hid (M - (1 + bt) ≠ M) := Lib.hid (by omega)
   obtain ⟨a_0, a_1, a_2⟩ := GA.out
   have a0 := a_0 0 _ rfl
   have a1 := a_0 1 _ rfl
   have a2 := a_0 2 _ rfl
   clear a_0 a_1
   go_upto_region 24 with fail
   clear a0 a1 a2 a_2
   obtain ⟨bB, hbB⟩ : ∃ b, b = w18.heap.size := ⟨_, rfl⟩
   obtain ⟨W20, hW20⟩ : ∃ X, X = w18.alloc (.cells #[.slice D2 us.length d2, .int .i64 M, .slice C cs.length cc] 35) := ⟨_, rfl⟩
   have GV : Hid (Below w18.heap.size w18 W20) := Lib.hid (by rw [hW20]; exact (Below.refl _ _).alloc (Nat.le_refl _) _)
   have GB : Hid (Bx W20 bB [.slice D2 us.length d2, .int .i64 M, .slice C cs.length cc]) := Lib.hid (by rw [hW20, hbB]; exact Bx.new w18 [.slice D2 us.length d2, .int .i64 M, .slice C cs.length cc] _)
   rw [← hW20]
   try rw [← hbB]
   have HbB := Lib.hid hbB
   clear hW20 hbB
   obtain ⟨b_0, b_1, b_2⟩ := GB.out
   have b0 := b_0 0 _ rfl
   have b1 := b_0 1 _ rfl
   have b2 := b_0 2 _ rfl
   clear b_0 b_1
   have bf := GB.out.2.1 1
   go_upto_region 25 with fail
   clear b0 b1 b2 b_2
   obtain ⟨W21, hW21⟩ : ∃ X, X = W20.setCell ⟨bB, 1, none⟩ (.int .i64 (M + (1 + bt))) := ⟨_, rfl⟩
   have GV : Hid (Below w18.heap.size w18 W21) := Lib.hid (by rw [hW21]; exact GV.out.setCell (by have := HbB.out; show w18.heap.size ≤ bB; omega) _)
   have GB : Hid (Bx W21 bB [.slice D2 us.length d2, .int .i64 (M + (1 + bt)), .slice C cs.length cc]) := Lib.hid (by rw [hW21]; exact GB.out.setAt (i := 1) (by simp) _)
   rw [← hW21]
   clear hW21 bf
   have GA2 := Lib.hid (GA.out.step GV.out)
   obtain ⟨a_0, a_1, a_2⟩ := GA2.out
   have a0 := a_0 0 _ rfl
   have a1 := a_0 1 _ rfl
   have a2 := a_0 2 _ rfl
   clear a_0 a_1
   go_upto_region 26 with fail
   clear a0 a1 a2 a_2
   obtain ⟨bD, hbD⟩ : ∃ b, b = W21.heap.size := ⟨_, rfl⟩
   obtain ⟨W22, hW22⟩ : ∃ X, X = W21.alloc (.cells #[.slice D2 us.length d2, .int .i64 M, .slice C cs.length cc] 35) := ⟨_, rfl⟩
   have hst : Below W21.heap.size W21 W22 := by rw [hW22]; exact (Below.refl _ _).alloc (Nat.le_refl _) _
   have GE : Hid (Bx W22 bD [.slice D2 us.length d2, .int .i64 M, .slice C cs.length cc]) := Lib.hid (by rw [hW22, hbD]; exact Bx.new W21 [.slice D2 us.length d2, .int .i64 M, .slice C cs.length cc] _)
   have HBD : Hid (bB < bD) := Lib.hid (by rw [hbD]; exact GB.out.2.2)
   have GB := Lib.hid (GB.out.step hst)
   have GV := Lib.hid (GV.out.trans (hst.mono GV.out.size))
   rw [← hW22]
   try rw [← hbD]
   clear hW22 hbD hst
   obtain ⟨b_0, b_1, b_2⟩ := GE.out
   have b0 := b_0 0 _ rfl
   have b1 := b_0 1 _ rfl
   have b2 := b_0 2 _ rfl
   clear b_0 b_1
   have bf := GE.out.2.1 1
   go_upto_region 27 with fail
   clear b0 b1 b2 b_2
   obtain ⟨W23, hW23⟩ : ∃ X, X = W22.setCell ⟨bD, 1, none⟩ (.int .i64 (M - (1 + bt))) := ⟨_, rfl⟩
   have GV : Hid (Below w18.heap.size w18 W23) := Lib.hid (by rw [hW23]; exact GV.out.setCell (by have := HbB.out; have := HBD.out; show w18.heap.size ≤ bD; omega) _)
   have GE : Hid (Bx W23 bD [.slice D2 us.length d2, .int .i64 (M - (1 + bt)), .slice C cs.length cc]) := Lib.hid (by rw [hW23]; exact GE.out.setAt (i := 1) (by simp) _)
   have GB : Hid (Bx W23 bB [.slice D2 us.length d2, .int .i64 (M + (1 + bt)), .slice C cs.length cc]) := Lib.hid (by rw [hW23]; exact GB.out.farC (by have := HBD.out; show bB ≠ bD; omega) _)
   rw [← hW23]
   clear hW23 bf hw1 hw2 hw3 hbe
   have H0 := Lib.hid (H0.out.step GV.out)
   have GW := Lib.hid (GW.out.trans (GV.out.mono GW.out.size))
   have HUS := Lib.hid (HUS.out.step GV.out)
   have HCS := Lib.hid (HCS.out.step GV.out)
   have GA := Lib.hid (GA.out.step GV.out)
   have GP := Lib.hid (GP.out.step GV.out)
   have HTO := Lib.hid (HTO.out.below GV.out (Nat.le_refl _))
   have GR := Lib.hid (GR.out.step GV.out)
   have HCT := Lib.hid (HCT.out.step GV.out)
   have GM := Lib.hid (GM.out.step GV.out)
   have HRQ := Lib.hid (HRQ.out.step GV.out)
   have GQ := Lib.hid (GQ.out.step GV.out)
   obtain ⟨M1, hM1⟩ : ∃ m, m = M + (1 + bt) := ⟨_, rfl⟩
   obtain ⟨M2, hM2⟩ : ∃ m, m = M - (1 + bt) := ⟨_, rfl⟩
   rw [← hM1] at GB HNE1
   rw [← hM2] at GE HNE2
   clear hM1 hM2
   have HC1 : Hid (∀ W, Below W23.heap.size W23 W → Calls Tryz.prog 14 #[.agg #[.string p.nm, .int .i64 p.number, .int .i64 p.uses, .int .i64 p.earn, .int .i64 p.mean.num, .int .i64 p.mean.den, .slice qA qn qc], .slice uA ct.length uc, .agg #[.slice D2 us.length d2, .int .i64 M1, .slice C cs.length cc]] W fun e w' => e = .returned (.int .i64 200) ∧ Below W.heap.size W w') := Lib.hid (fun W hb => by
    have h := ProCheck_any (P := everyB) (extP d.fs term known p) ⟨qA, qn, qc⟩ ct uA uc us D2 d2 M1 cs C cc W ((HRQ.out.step hb).mono_ (fun _ _ => trivial)) HMI.out (HCT.out.step hb) (HUS.out.step hb).reads (HCS.out.step hb) hctl hul2
    rw [audit_other HAE.out HNE1.out] at h
    exact h)
   have HC2 : Hid (∀ W, Below W23.heap.size W23 W → Calls Tryz.prog 14 #[.agg #[.string p.nm, .int .i64 p.number, .int .i64 p.uses, .int .i64 p.earn, .int .i64 p.mean.num, .int .i64 p.mean.den, .slice qA qn qc], .slice uA ct.length uc, .agg #[.slice D2 us.length d2, .int .i64 M2, .slice C cs.length cc]] W fun e w' => e = .returned (.int .i64 200) ∧ Below W.heap.size W w') := Lib.hid (fun W hb => by
    have h := ProCheck_any (P := everyB) (extP d.fs term known p) ⟨qA, qn, qc⟩ ct uA uc us D2 d2 M2 cs C cc W ((HRQ.out.step hb).mono_ (fun _ _ => trivial)) HMI.out (HCT.out.step hb) (HUS.out.step hb).reads (HCS.out.step hb) hctl hul2
    rw [audit_other HAE.out HNE2.out] at h
    exact h)
   obtain ⟨q_0, q_1, q_2⟩ := GQ.out
   have q0 := q_0 0 _ rfl
   have q1 := q_0 1 _ rfl
   have q2 := q_0 2 _ rfl
   have q3 := q_0 3 _ rfl
   have q4 := q_0 4 _ rfl
   have q5 := q_0 5 _ rfl
   have q6 := q_0 6 _ rfl
   clear q_0 q_1
   obtain ⟨b_0, b_1, b_2⟩ := GB.out
   have b0 := b_0 0 _ rfl
   have b1 := b_0 1 _ rfl
   have b2 := b_0 2 _ rfl
   clear b_0 b_1
   go_wp2_with fail
   clear q0 q1 q2 q3 q4 q5 q6 q_2 b0 b1 b2 b_2
   refine (HC1.out _ (Below.refl _ _)).mono ?_
   rintro e w24 ⟨rfl, hb24⟩
   have HB24 := Lib.hid hb24
   have H0 := Lib.hid (H0.out.step hb24)
   have GW := Lib.hid (GW.out.trans (hb24.mono GW.out.size))
   have HUS := Lib.hid (HUS.out.step hb24)
   have HCS := Lib.hid (HCS.out.step hb24)
   have GA := Lib.hid (GA.out.step hb24)
   have GP := Lib.hid (GP.out.step hb24)
   have HTO := Lib.hid (HTO.out.below hb24 (Nat.le_refl _))
   have GR := Lib.hid (GR.out.step hb24)
   have HCT := Lib.hid (HCT.out.step hb24)
   have GM := Lib.hid (GM.out.step hb24)
   have HRQ := Lib.hid (HRQ.out.step hb24)
   have GQ := Lib.hid (GQ.out.step hb24)
   have GB := Lib.hid (GB.out.step hb24)
   have GE := Lib.hid (GE.out.step hb24)
   clear hb24
   obtain ⟨q_0, q_1, q_2⟩ := GQ.out
   have q0 := q_0 0 _ rfl
   have q1 := q_0 1 _ rfl
   have q2 := q_0 2 _ rfl
   have q3 := q_0 3 _ rfl
   have q4 := q_0 4 _ rfl
   have q5 := q_0 5 _ rfl
   have q6 := q_0 6 _ rfl
   clear q_0 q_1
   obtain ⟨b_0, b_1, b_2⟩ := GE.out
   have b0 := b_0 0 _ rfl
   have b1 := b_0 1 _ rfl
   have b2 := b_0 2 _ rfl
   clear b_0 b_1
   go_wp2_with fail
   clear q0 q1 q2 q3 q4 q5 q6 q_2 b0 b1 b2 b_2
   refine (HC2.out _ HB24.out).mono ?_
   rintro e w25 ⟨rfl, hb25⟩
   have H0 := Lib.hid (H0.out.step hb25)
   have GW := Lib.hid (GW.out.trans (hb25.mono GW.out.size))
   have HUS := Lib.hid (HUS.out.step hb25)
   have HCS := Lib.hid (HCS.out.step hb25)
   have GA := Lib.hid (GA.out.step hb25)
   have GP := Lib.hid (GP.out.step hb25)
   have HTO := Lib.hid (HTO.out.below hb25 (Nat.le_refl _))
   have GR := Lib.hid (GR.out.step hb25)
   have HCT := Lib.hid (HCT.out.step hb25)
   have GM := Lib.hid (GM.out.step hb25)
   have HRQ := Lib.hid (HRQ.out.step hb25)
   have GQ := Lib.hid (GQ.out.step hb25)
   have GB := Lib.hid (GB.out.step hb25)
   have GE := Lib.hid (GE.out.step hb25)
   go_wp2_with fail
   go_ret
   exact ⟨rfl, GW.out⟩
  ·skip
   have e1 : (al == 0) = false := by simpa using hal0
   have e2 : (al != 0) = true := by simpa using hal0
   have hw1 : wrap64 (1 + bt) = 1 + bt := IntWalk.wrap64_in _ ⟨by omega, by omega⟩
   have hw2 : wrap64 (M + (1 + bt)) = M + (1 + bt) := IntWalk.wrap64_in _ ⟨by omega, by omega⟩
   have hw3 : wrap64 (M - (1 + bt)) = M - (1 + bt) := IntWalk.wrap64_in _ ⟨by omega, by omega⟩
   have hbe := HBT.out.symm
   have HNE1 : Hid (M + (1 + bt) ≠ M) := Lib.hid (by omega)
   have HNE2 : Hid (M - (1 + bt) ≠ M) := Lib.hid (by omega)
   obtain ⟨a_0, a_1, a_2⟩ := GA.out
   have a0 := a_0 0 _ rfl
   have a1 := a_0 1 _ rfl
   have a2 := a_0 2 _ rfl
   clear a_0 a_1
   go_upto_region 24 with fail
   clear a0 a1 a2 a_2
   obtain ⟨bB, hbB⟩ : ∃ b, b = w17.heap.size := ⟨_, rfl⟩
   obtain ⟨W20, hW20⟩ : ∃ X, X = w17.alloc (.cells #[.slice D2 us.length d2, .int .i64 M, .slice C cs.length cc] 35) := ⟨_, rfl⟩
   have GV : Hid (Below w17.heap.size w17 W20) := Lib.hid (by rw [hW20]; exact (Below.refl _ _).alloc (Nat.le_refl _) _)
   have GB : Hid (Bx W20 bB [.slice D2 us.length d2, .int .i64 M, .slice C cs.length cc]) := Lib.hid (by rw [hW20, hbB]; exact Bx.new w17 [.slice D2 us.length d2, .int .i64 M, .slice C cs.length cc] _)
   rw [← hW20]
   try rw [← hbB]
   have HbB := Lib.hid hbB
   clear hW20 hbB
   obtain ⟨b_0, b_1, b_2⟩ := GB.out
   have b0 := b_0 0 _ rfl
   have b1 := b_0 1 _ rfl
   have b2 := b_0 2 _ rfl
   clear b_0 b_1
   have bf := GB.out.2.1 1
   go_upto_region 25 with fail
   clear b0 b1 b2 b_2
   obtain ⟨W21, hW21⟩ : ∃ X, X = W20.setCell ⟨bB, 1, none⟩ (.int .i64 (M + (1 + bt))) := ⟨_, rfl⟩
   have GV : Hid (Below w17.heap.size w17 W21) := Lib.hid (by rw [hW21]; exact GV.out.setCell (by have := HbB.out; show w17.heap.size ≤ bB; omega) _)
   have GB : Hid (Bx W21 bB [.slice D2 us.length d2, .int .i64 (M + (1 + bt)), .slice C cs.length cc]) := Lib.hid (by rw [hW21]; exact GB.out.setAt (i := 1) (by simp) _)
   rw [← hW21]
   clear hW21 bf
   have GA2 := Lib.hid (GA.out.step GV.out)
   obtain ⟨a_0, a_1, a_2⟩ := GA2.out
   have a0 := a_0 0 _ rfl
   have a1 := a_0 1 _ rfl
   have a2 := a_0 2 _ rfl
   clear a_0 a_1
   go_upto_region 26 with fail
   clear a0 a1 a2 a_2
   obtain ⟨bD, hbD⟩ : ∃ b, b = W21.heap.size := ⟨_, rfl⟩
   obtain ⟨W22, hW22⟩ : ∃ X, X = W21.alloc (.cells #[.slice D2 us.length d2, .int .i64 M, .slice C cs.length cc] 35) := ⟨_, rfl⟩
   have hst : Below W21.heap.size W21 W22 := by rw [hW22]; exact (Below.refl _ _).alloc (Nat.le_refl _) _
   have GE : Hid (Bx W22 bD [.slice D2 us.length d2, .int .i64 M, .slice C cs.length cc]) := Lib.hid (by rw [hW22, hbD]; exact Bx.new W21 [.slice D2 us.length d2, .int .i64 M, .slice C cs.length cc] _)
   have HBD : Hid (bB < bD) := Lib.hid (by rw [hbD]; exact GB.out.2.2)
   have GB := Lib.hid (GB.out.step hst)
   have GV := Lib.hid (GV.out.trans (hst.mono GV.out.size))
   rw [← hW22]
   try rw [← hbD]
   clear hW22 hbD hst
   obtain ⟨b_0, b_1, b_2⟩ := GE.out
   have b0 := b_0 0 _ rfl
   have b1 := b_0 1 _ rfl
   have b2 := b_0 2 _ rfl
   clear b_0 b_1
   have bf := GE.out.2.1 1
   go_upto_region 27 with fail
   clear b0 b1 b2 b_2
   obtain ⟨W23, hW23⟩ : ∃ X, X = W22.setCell ⟨bD, 1, none⟩ (.int .i64 (M - (1 + bt))) := ⟨_, rfl⟩
   have GV : Hid (Below w17.heap.size w17 W23) := Lib.hid (by rw [hW23]; exact GV.out.setCell (by have := HbB.out; have := HBD.out; show w17.heap.size ≤ bD; omega) _)
   have GE : Hid (Bx W23 bD [.slice D2 us.length d2, .int .i64 (M - (1 + bt)), .slice C cs.length cc]) := Lib.hid (by rw [hW23]; exact GE.out.setAt (i := 1) (by simp) _)
   have GB : Hid (Bx W23 bB [.slice D2 us.length d2, .int .i64 (M + (1 + bt)), .slice C cs.length cc]) := Lib.hid (by rw [hW23]; exact GB.out.farC (by have := HBD.out; show bB ≠ bD; omega) _)
   rw [← hW23]
   clear hW23 bf hw1 hw2 hw3 hbe
   have H0 := Lib.hid (H0.out.step GV.out)
   have GW := Lib.hid (GW.out.trans (GV.out.mono GW.out.size))
   have HUS := Lib.hid (HUS.out.step GV.out)
   have HCS := Lib.hid (HCS.out.step GV.out)
   have GA := Lib.hid (GA.out.step GV.out)
   have GP := Lib.hid (GP.out.step GV.out)
   have HTO := Lib.hid (HTO.out.below GV.out (Nat.le_refl _))
   have GR := Lib.hid (GR.out.step GV.out)
   have HCT := Lib.hid (HCT.out.step GV.out)
   have GM := Lib.hid (GM.out.step GV.out)
   have HRQ := Lib.hid (HRQ.out.step GV.out)
   have GQ := Lib.hid (GQ.out.step GV.out)
   obtain ⟨M1, hM1⟩ : ∃ m, m = M + (1 + bt) := ⟨_, rfl⟩
   obtain ⟨M2, hM2⟩ : ∃ m, m = M - (1 + bt) := ⟨_, rfl⟩
   rw [← hM1] at GB HNE1
   rw [← hM2] at GE HNE2
   clear hM1 hM2
   have HC1 : Hid (∀ W, Below W23.heap.size W23 W → Calls Tryz.prog 14 #[.agg #[.string p.nm, .int .i64 p.number, .int .i64 p.uses, .int .i64 p.earn, .int .i64 p.mean.num, .int .i64 p.mean.den, .slice qA qn qc], .slice uA ct.length uc, .agg #[.slice D2 us.length d2, .int .i64 M1, .slice C cs.length cc]] W fun e w' => e = .returned (.int .i64 200) ∧ Below W.heap.size W w') := Lib.hid (fun W hb => by
    have h := ProCheck_any (P := everyB) (extP d.fs term known p) ⟨qA, qn, qc⟩ ct uA uc us D2 d2 M1 cs C cc W ((HRQ.out.step hb).mono_ (fun _ _ => trivial)) HMI.out (HCT.out.step hb) (HUS.out.step hb).reads (HCS.out.step hb) hctl hul2
    rw [audit_other HAE.out HNE1.out] at h
    exact h)
   have HC2 : Hid (∀ W, Below W23.heap.size W23 W → Calls Tryz.prog 14 #[.agg #[.string p.nm, .int .i64 p.number, .int .i64 p.uses, .int .i64 p.earn, .int .i64 p.mean.num, .int .i64 p.mean.den, .slice qA qn qc], .slice uA ct.length uc, .agg #[.slice D2 us.length d2, .int .i64 M2, .slice C cs.length cc]] W fun e w' => e = .returned (.int .i64 200) ∧ Below W.heap.size W w') := Lib.hid (fun W hb => by
    have h := ProCheck_any (P := everyB) (extP d.fs term known p) ⟨qA, qn, qc⟩ ct uA uc us D2 d2 M2 cs C cc W ((HRQ.out.step hb).mono_ (fun _ _ => trivial)) HMI.out (HCT.out.step hb) (HUS.out.step hb).reads (HCS.out.step hb) hctl hul2
    rw [audit_other HAE.out HNE2.out] at h
    exact h)
   obtain ⟨q_0, q_1, q_2⟩ := GQ.out
   have q0 := q_0 0 _ rfl
   have q1 := q_0 1 _ rfl
   have q2 := q_0 2 _ rfl
   have q3 := q_0 3 _ rfl
   have q4 := q_0 4 _ rfl
   have q5 := q_0 5 _ rfl
   have q6 := q_0 6 _ rfl
   clear q_0 q_1
   obtain ⟨b_0, b_1, b_2⟩ := GB.out
   have b0 := b_0 0 _ rfl
   have b1 := b_0 1 _ rfl
   have b2 := b_0 2 _ rfl
   clear b_0 b_1
   go_wp2_with fail
   clear q0 q1 q2 q3 q4 q5 q6 q_2 b0 b1 b2 b_2
   refine (HC1.out _ (Below.refl _ _)).mono ?_
   rintro e w24 ⟨rfl, hb24⟩
   have HB24 := Lib.hid hb24
   have H0 := Lib.hid (H0.out.step hb24)
   have GW := Lib.hid (GW.out.trans (hb24.mono GW.out.size))
   have HUS := Lib.hid (HUS.out.step hb24)
   have HCS := Lib.hid (HCS.out.step hb24)
   have GA := Lib.hid (GA.out.step hb24)
   have GP := Lib.hid (GP.out.step hb24)
   have HTO := Lib.hid (HTO.out.below hb24 (Nat.le_refl _))
   have GR := Lib.hid (GR.out.step hb24)
   have HCT := Lib.hid (HCT.out.step hb24)
   have GM := Lib.hid (GM.out.step hb24)
   have HRQ := Lib.hid (HRQ.out.step hb24)
   have GQ := Lib.hid (GQ.out.step hb24)
   have GB := Lib.hid (GB.out.step hb24)
   have GE := Lib.hid (GE.out.step hb24)
   clear hb24
   obtain ⟨q_0, q_1, q_2⟩ := GQ.out
   have q0 := q_0 0 _ rfl
   have q1 := q_0 1 _ rfl
   have q2 := q_0 2 _ rfl
   have q3 := q_0 3 _ rfl
   have q4 := q_0 4 _ rfl
   have q5 := q_0 5 _ rfl
   have q6 := q_0 6 _ rfl
   clear q_0 q_1
   obtain ⟨b_0, b_1, b_2⟩ := GE.out
   have b0 := b_0 0 _ rfl
   have b1 := b_0 1 _ rfl
   have b2 := b_0 2 _ rfl
   clear b_0 b_1
   go_wp2_with fail
   clear q0 q1 q2 q3 q4 q5 q6 q_2 b0 b1 b2 b_2
   refine (HC2.out _ HB24.out).mono ?_
   rintro e w25 ⟨rfl, hb25⟩
   have H0 := Lib.hid (H0.out.step hb25)
   have GW := Lib.hid (GW.out.trans (hb25.mono GW.out.size))
   have HUS := Lib.hid (HUS.out.step hb25)
   have HCS := Lib.hid (HCS.out.step hb25)
   have GA := Lib.hid (GA.out.step hb25)
   have GP := Lib.hid (GP.out.step hb25)
   have HTO := Lib.hid (HTO.out.below hb25 (Nat.le_refl _))
   have GR := Lib.hid (GR.out.step hb25)
   have HCT := Lib.hid (HCT.out.step hb25)
   have GM := Lib.hid (GM.out.step hb25)
   have HRQ := Lib.hid (HRQ.out.step hb25)
   have GQ := Lib.hid (GQ.out.step hb25)
   have GB := Lib.hid (GB.out.step hb25)
   have GE := Lib.hid (GE.out.step hb25)
   go_wp2_with fail
   go_ret
   exact ⟨rfl, GW.out⟩
end Go.Proofs.YtalmbigebjbaoaaGreatDoor
