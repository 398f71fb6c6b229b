/- TopDegree, what its proof leans on: the texts TopZ. -/
import Derived.Test.YtalmbigebjbaoaaGreatDoorM36
import Derived.BigQuiet
import Derived.Deep.QuietTactic
import Derived.Deep.CutBlock
import Derived.Deep.CutRange
import Derived.Test.YtalmbigebjbaoaaGreatDoorM19
import Derived.Deep.RegionHeldLaw
namespace Go.Proofs.YtalmbigebjbaoaaGreatDoor
open Go.RowKit Go.Shelf
set_option linter.unusedSimpArgs false
set_option linter.unusedVariables false
attribute [local go_sem] Oper.semAt_some
theorem OfI.turn {n₀ b B : Nat} {d : Wd} {known : Int} {W0 : World} {v0 : Value} {student : Int} {rb : Nat} {O : Nat → Prop} {Wr : World} {m : Nat} {v va : Value} {atts atts' : List At} {W W2 : World} (h : OfI n₀ b B d known W0 v0 student rb O Wr m v va atts W)
 (hg : W.grownBy W2 va.ownBlock) (hn : Owns W2 (rb + 1) 69 5 At.enc va atts') : OfI n₀ b B d known W0 v0 student rb O Wr m v va atts' W2 := by
 have hrb : rb < W.heap.size := h.bx.2.2
 have hbz := h.bz
 have hrz := h.rz
 have hbase := h.ow.base_le
 have hz1 := h.lk.z1
 have hz2 := h.lk.z2
 have blk : ∀ k, k < W.heap.size → va.ownBlock ≠ some k → W2.heap[k]? = W.heap[k]? := fun k hk h2 => hg.block k hk (fun e => h2 e.symm)
 refine ⟨h.lk.far hg.size (fun k hk hc => blk k hk (fun e => ?_)), ⟨hg.os.trans h.fr.os, hg.tape.trans h.fr.tape, hg.output.trans h.fr.output, Nat.le_trans h.fr.size hg.size, fun k hk hb hv => (blk k (Nat.lt_of_lt_of_le hk h.fr.size) (fun e => by have := hbase k e; omega)).trans (h.fr.block k hk hb hv), h.fr.own⟩, h.bx.keep (P := fun y => y = rb) (Kp.of_grown2 hg (fun y hy e => by have := hbase y e.symm; omega)) rfl, h.rz, h.bz, hn, h.ap, fun k hk => ?_⟩
 ·have := hbase k e
  rcases hc with hc | hc | hc
  ·omega
  ·omega
  ·exact (h.ap k hc).2 e
 ·obtain ⟨a1, a2, a3, a4, a5, a6⟩ := h.ot k hk
  exact ⟨Nat.lt_of_lt_of_le a1 hg.size, a2, a3, a4, a5, (blk k a1 a5).trans a6⟩
def recF (d : Wd) (student term known : Int) : List At := sortA (recTo d student term known (numsF d.fs known))
set_option maxRecDepth 100000 in
set_option maxHeartbeats 8000000 in
theorem lkOf_any {n₀ b B : Nat} {d : Wd} {known : Int} {m : Nat} {v : Value} (student term : Int) (W : World) (hk : Lk n₀ b B d known m v W) (hf : d.fs.length ≤ 100000) (hfw : ∀ x ∈ d.cs, Cr.Few x) (hv : ∀ f ∈ d.fs, f.val ≤ 9223372036854775807) (hm : m + 300000000 ≤ 1099511627776) (hB : B ≤ W.heap.size) :
 Calls Tryz.prog 32 #[.pointer (some ⟨b, 0, none⟩), .int .i64 student, .int .i64 term] W fun e w' =>
  ∃ (s : Sl) (v' : Value), e = .returned (.agg #[.int .i64 student, .slice s.a s.n s.c]) ∧ Owns w' W.heap.size 69 5 At.enc (.slice s.a s.n s.c) (recF d student term known) ∧ Lk n₀ b B d known (m + 300000000) v' w' ∧ LkF b v v' W w' := by
 have HK := Lib.hid hk
 have hzb : b < W.heap.size := hk.bx.2.2
 obtain ⟨i0, hi0, hz0, hz1, hz2⟩ := info_parts Tryz.infoAt5
 have HI0 := Lib.hid hi0
 obtain ⟨W1, hW1⟩ : ∃ X, X = W.alloc (.cells #[.int .i64 student, .slice none 0 0] 49) := ⟨_, rfl⟩
 have hb1 : Below W.heap.size W W1 := by rw [hW1]; exact (Below.refl _ _).alloc (Nat.le_refl _) _
 have HZ1 : Hid (Bx W1 W.heap.size [.int .i64 student, .slice none 0 0]) := Lib.hid (by rw [hW1]; exact Bx.new W [.int .i64 student, .slice none 0 0] 49)
 have HN := Lib.hid (lkNumbers_any W1 (hk.step hb1) hf (by omega) (Nat.le_trans hB hb1.size))
 have HB1 := Lib.hid hb1
 have HZS : Hid (W1.heap.size = W.heap.size + 1) := Lib.hid (by rw [hW1]; simp)
 have HVL : Hid (∀ k, v.ownBlock = some k → k < W.heap.size) := Lib.hid (fun k e => by
  obtain ⟨rs, o, _⟩ := hk.ow
  exact o.lt k e)
 clear hi0 hk hb1
 go_enter Tryz.func32, Tryz.ntmps32
 go_wp2_with fail
 rw [← hW1]
 refine HN.out.mono ?_
 rintro e w1 ⟨ns, v1, rfl, hns, hk1, hf1, hap1⟩
 obtain ⟨nums, hnums⟩ : ∃ nums, nums = numsF d.fs known := ⟨_, rfl⟩
 rw [← hnums] at hns
 have hnl : nums.length ≤ 100000 := by rw [hnums]; exact Nat.le_trans (numsF_len _ _) hf
 obtain ⟨rb, hrb⟩ : ∃ rb, rb = W.heap.size := ⟨_, rfl⟩
 rw [← hrb] at HZ1
 obtain ⟨nA, nn, nc⟩ := ns
 obtain ⟨nA2, nc2, hne, _, _⟩ := hns.shape
 simp only [Value.slice.injEq] at hne
 obtain ⟨rfl, rfl, rfl⟩ := hne
 simp only at hns hap1
 have HO0 : Hid (OfI n₀ b B d known W v student rb (fun k => (Value.slice nA nums.length nc).ownBlock = some k) w1 (m + 1) v1 (.slice none 0 0) [] w1) := Lib.hid ⟨hk1, (LkF.of_below HB1.out).trans hf1,
  HZ1.out.keep (P := fun y => y = rb) (hf1.kp (fun k e => by subst e; exact ⟨by omega, fun e => by have := HVL.out _ e; omega⟩)) rfl, by omega, hzb, Owns.nil_ _ _ _ _ _, fun k e => ⟨fun e2 => by
   subst e2
   rcases hf1.own with ho | ho
   ·rw [ho] at e; have := HVL.out _ e; omega
   ·have := ho _ e; have := HZS.out; omega, fun e2 => by cases e2⟩, fun k e => by
   have h1 := hns.base_le k e
   have h2 := HZS.out
   exact ⟨hns.lt k e, by omega, by omega, hap1 k e, (fun e2 => by cases e2), rfl⟩⟩
 have HNS := Lib.hid hns
 have HNU := Lib.hid hnums
 clear hns hk1 hf1 hap1 HZ1 hnums hW1 HN
 go_wp2_with fail
 rw [← hrb]
 have HRBE := Lib.hid hrb
 clear hrb
 go_loopw [18] (fun i wr => ∃ (j : Nat) (m1 : Nat) (v2 va : Value), j ≤ nums.length ∧ i = .int .i64 j ∧ m1 ≤ m + 1 + 2000 * j ∧ OfI n₀ b B d known W v student rb (fun k => (Value.slice nA nums.length nc).ownBlock = some k) w1 m1 v2 va (recTo d student term known (nums.take j)) wr) (fun i _ => nums.length - (intOf i).toNat)
 case atStart => exact ⟨0, m + 1, v1, .slice none 0 0, Nat.zero_le _, rfl, by omega, HO0.out⟩
 case round =>
  clear HO0
  obtain ⟨j, m1, v2, va, hj, rfl, hm1, ho⟩ := hrel
  obtain ⟨wo, hwo⟩ : ∃ X, X = wr := ⟨_, rfl⟩
  subst hwo
  have HO := Lib.hid ho
  have HOW : Hid (Owns wo W1.heap.size 3 1 intE (.slice nA nums.length nc) nums) := Lib.hid (HNS.out.same (fun k e => (ho.ot k e).2.2.2.2.2))
  by_cases hlt : j < nums.length
  ·obtain ⟨ba, oa, n, hne, hba, hxk, hca⟩ := (HOW.out.reads intE_len_).at_ hlt
   subst hne
   have a0 := hca 0 _ rfl
   simp only [Nat.add_zero, Nat.mul_one] at a0
   have HXK := Lib.hid hxk
   have hBz : B ≤ wo.heap.size := Nat.le_trans hB ho.fr.size
   have HG := Lib.hid (lkGrades_any student n term wo ho.lk hf (by omega) hBz)
   obtain ⟨pts, hpts⟩ : ∃ pts, pts = ptsF d.fs ⟨5, student, n⟩ term known := ⟨_, rfl⟩
   rw [← hpts] at HG
   have HPT := Lib.hid hpts
   have hpl : pts.length ≤ 1024 := by rw [hpts]; exact ptsF_len _ _ _ _
   clear hca hxk hpts ho
   go_wp2_with fail
   refine HG.out.mono ?_
   rintro e w5 ⟨ps, v3, rfl, hps, hk5, hf5, hap5⟩
   obtain ⟨pA, pn, pc⟩ := ps
   obtain ⟨pA2, pc2, hne, _, _⟩ := hps.shape
   simp only [Value.slice.injEq] at hne
   obtain ⟨rfl, rfl, rfl⟩ := hne
   simp only at hps hap5
   have ho5 := HO.out.call hk5 hf5
   have HO5 := Lib.hid ho5
   have HP5 : Hid (OfI n₀ b B d known W v student rb (fun k => (Value.slice (some ⟨ba, oa, none⟩) nums.length nc).ownBlock = some k ∨ (Value.slice pA pts.length pc).ownBlock = some k) w5 (m1 + 1) v3 va (recTo d student term known (nums.take j)) w5) := Lib.hid (ho5.other (fun k hk => by
    rcases hk with hk | hk
    ·obtain ⟨a1, a2, a3, a4, a5, _⟩ := ho5.ot k hk
     exact ⟨a1, a2, a3, a4, a5⟩
    ·have h1 := hps.base_le k hk
     have h2 := HO.out.bx.2.2
     have h3 := HO.out.fr.size
     exact ⟨hps.lt k hk, by omega, by omega, hap5 k hk, fun e2 => by have := HO.out.ow.lt k e2; omega⟩))
   have HPS := Lib.hid hps
   have hwz : wo.heap.size ≤ w5.heap.size := hf5.size
   clear hps hk5 hf5 hap5 ho5 a0 HG
   go_wp2_with fail
   go_loopw [28] (fun i wr2 => ∃ (t : Nat) (m2 : Nat) (v4 vb : Value), t ≤ pts.length ∧ i = .int .i64 t ∧ m2 ≤ m1 + 1 + t ∧ OfI n₀ b B d known W v student rb (fun k => (Value.slice (some ⟨ba, oa, none⟩) nums.length nc).ownBlock = some k ∨ (Value.slice pA pts.length pc).ownBlock = some k) w5 m2 v4 vb (recTo d student term known (nums.take j) ++ (pts.take t).flatMap (attF d known n)) wr2) (fun i _ => pts.length - (intOf i).toNat)
   case atStart => exact ⟨0, m1 + 1, v3, va, Nat.zero_le _, rfl, by omega, by simpa using HP5.out⟩
   case round =>
    clear HP5
    obtain ⟨t, m2, v4, vb, ht, rfl, hm2, ho⟩ := hrel
    have HO2 := Lib.hid ho
    have HOP : Hid (Owns wr wo.heap.size 146 2 ptE (.slice pA pts.length pc) pts) := Lib.hid (HPS.out.same (fun k e => (ho.ot k (.inr e)).2.2.2.2.2))
    by_cases hlt2 : t < pts.length
    ·obtain ⟨bp, op, p, hne, hbp, hpk, hcp⟩ := (HOP.out.reads ptE_len).at_ hlt2
     subst hne
     have a0 := hcp 0 _ rfl
     have a1 := hcp 1 _ rfl
     simp only [Nat.add_zero] at a0
     have HPK := Lib.hid hpk
     have hnn : 0 ≤ p.2 := by have := List.mem_of_getElem? hpk; rw [HPT.out] at this; exact ptsF_nn _ _ _ _ p this
     have hle : p.2 ≤ 9223372036854775807 := by have := List.mem_of_getElem? hpk; rw [HPT.out] at this; exact ptsF_le hv _ _ _ p this
     obtain ⟨tm, x⟩ := p
     simp only at a0 a1 hnn hle
     obtain ⟨g, hg⟩ : ∃ g, g = x % 16 := ⟨_, rfl⟩
     obtain ⟨q, hq⟩ : ∃ q, q = x / 16 := ⟨_, rfl⟩
     have hg1 : x.tmod 16 = g := by rw [Int.tmod_eq_emod_of_nonneg hnn, hg]
     have hq1 : x.tdiv 16 = q := by rw [Int.tdiv_eq_ediv_of_nonneg hnn, hq]
     have hg2 : x % 16 = g := hg.symm
     have hq2 : x / 16 = q := hq.symm
     have hq3 : 0 ≤ q ∧ q ≤ 576460752303423488 := by omega
     have hg3 : 0 ≤ g ∧ g ≤ 15 := by omega
     have hwq : IntKind.i64.wrap q = q := IntWalk.i64_in _ ⟨by omega, by omega⟩
     have hwg : IntKind.i64.wrap g = g := IntWalk.i64_in _ ⟨by omega, by omega⟩
     have h16 : (16 : Int) ≠ 0 := by decide
     have HAT : Hid (attF d known n (tm, x) = if 12 < g ∨ 7 ≤ q then [] else [⟨n, tm, g, q, credF (courF d n tm known)⟩]) := Lib.hid (by unfold attF; rw [hg, hq])
     clear hcp hpk ho hg hq
     go_wp2_with fail
     go_quiet (fail)
     obtain ⟨W6, hW6⟩ : ∃ X, X = (wr.alloc (.cells #[.int .i64 tm, .int .i64 x] 146)).drewN nq := ⟨_, rfl⟩
     have hb6 : Below wr.heap.size wr W6 := by rw [hW6]; exact ((Below.refl _ _).alloc (Nat.le_refl _) _).trans ⟨rfl, rfl, rfl, Nat.le_refl _, fun _ _ => rfl⟩
     have hX6 : Bx W6 wr.heap.size [.int .i64 tm, .int .i64 x] := by rw [hW6]; exact (Bx.new wr [.int .i64 tm, .int .i64 x] 146)
     rw [← hW6]
     have HB6 := Lib.hid hb6
     have HX6 := Lib.hid hX6
     have HFT : Hid ((pts.take (t + 1)).flatMap (attF d known n) = (pts.take t).flatMap (attF d known n) ++ attF d known n (tm, x)) := Lib.hid (flatM_at _ HPK.out)
     obtain ⟨pb, hpb⟩ : ∃ pb, pb = wr.heap.size := ⟨_, rfl⟩
     rw [← hpb] at HX6 ⊢
     have HPB := Lib.hid hpb
     clear hb6 hX6 hW6 a0 a1 hpb
     cases c1 : decide (12 < g)
     case true =>
      have HNO : Hid (attF d known n (tm, x) = []) := Lib.hid (by rw [HAT.out, if_pos (.inl (of_decide_eq_true c1))])
      go_wp2_with fail
      go_roundw
      case rel => exact ⟨t + 1, m2, v4, vb, by omega, by go_num, by omega, by rw [HFT.out, HNO.out, List.append_nil]; exact HO2.out.step HB6.out⟩
      case measure => simp [intOf]; omega
     cases c2 : decide (7 ≤ q)
     case true =>
      have HNO : Hid (attF d known n (tm, x) = []) := Lib.hid (by rw [HAT.out, if_pos (.inr (of_decide_eq_true c2))])
      go_wp2_with fail
      go_roundw
      case rel => exact ⟨t + 1, m2, v4, vb, by omega, by go_num, by omega, by rw [HFT.out, HNO.out, List.append_nil]; exact HO2.out.step HB6.out⟩
      case measure => simp [intOf]; omega
     obtain ⟨ec, hec⟩ : ∃ ec, ec = (crC (courF d n tm known)).toArray := ⟨_, rfl⟩
     obtain ⟨cr, hcr⟩ : ∃ cr, cr = credF (courF d n tm known) := ⟨_, rfl⟩
     have hfd := field_cred (courF d n tm known)
     rw [← hec, ← hcr] at hfd
     have HC := Lib.hid (fun (w9 : World) (m9 : Nat) (v9 : Value) (h : Lk n₀ b B d known m9 v9 w9) (hb : B ≤ w9.heap.size) (hm9 : m9 + 1 ≤ 1099511627776) => lkCourse_any n tm w9 h hf hfw hm9 hb)
     rw [← hec] at HC
     have HAT2 : Hid (attF d known n (tm, x) = [⟨n, tm, g, q, cr⟩]) := Lib.hid (by rw [HAT.out, if_neg (by have := of_decide_eq_false c1; have := of_decide_eq_false c2; omega), hcr])
     obtain ⟨ys, hys⟩ : ∃ ys, ys = recTo d student term known (nums.take j) ++ (pts.take t).flatMap (attF d known n) := ⟨_, rfl⟩
     have hyl : ys.length ≤ 110000000 := by
      rw [hys, List.length_append]
      have h1 := recTo_len d student term known (nums.take j)
      have h2 := flatM_len (attF d known n) 1 (attF_len d known n) (pts.take t)
      have h3 : (nums.take j).length ≤ 100000 := by simp; omega
      have h4 : (pts.take t).length ≤ 1024 := by simp; omega
      omega
     rw [← hys] at HO2
     obtain ⟨vA, vc, rfl, _, _⟩ := HO2.out.ow.shape
     have HO6 : Hid (OfI n₀ b B d known W v student rb (fun k => ((Value.slice (some ⟨ba, oa, none⟩) nums.length nc).ownBlock = some k ∨ (Value.slice (some ⟨bp, op, none⟩) pts.length pc).ownBlock = some k) ∨ k = pb) W6 m2 v4 (.slice vA ys.length vc) ys W6) := Lib.hid (by
      have h6 := HO2.out.step HB6.out
      have hpb := HPB.out
      refine h6.other (fun k hk => ?_)
      rcases hk with hk | hk
      ·obtain ⟨a1, a2, a3, a4, a5, _⟩ := h6.ot k hk
       exact ⟨a1, a2, a3, a4, a5⟩
      ·subst hk
       have h1 := HO2.out.bx.2.2
       have h2 := HO2.out.fr.size
       refine ⟨HX6.out.2.2, by omega, by omega, fun e => ?_, fun e => by have := HO2.out.ow.lt k e; omega⟩
       obtain ⟨rs, o, _⟩ := HO2.out.lk.ow
       have := o.lt k e
       omega)
     have SS : Hid (∀ m9 v9 va9 (ys9 : List At) w9, OfI n₀ b B d known W v student rb (fun k => ((Value.slice (some ⟨ba, oa, none⟩) nums.length nc).ownBlock = some k ∨ (Value.slice (some ⟨bp, op, none⟩) pts.length pc).ownBlock = some k) ∨ k = pb) W6 m9 v9 va9 ys9 w9 → (fun W7 => W7.cell? ⟨pb, 0, none⟩ = some (.int .i64 tm)) w9) := Lib.hid (fun m9 v9 va9 ys9 w9 h => (World.cell?_of_block (a := ⟨pb, 0, none⟩) (h.ot pb (.inr rfl)).2.2.2.2.2).trans (HX6.out.1 0 _ rfl))
     have S2 : Hid (∀ m9 v9 va9 (ys9 : List At) w9 w10, OfI n₀ b B d known W v student rb (fun k => ((Value.slice (some ⟨ba, oa, none⟩) nums.length nc).ownBlock = some k ∨ (Value.slice (some ⟨bp, op, none⟩) pts.length pc).ownBlock = some k) ∨ k = pb) W6 m9 v9 va9 ys9 w9 → w9.grownBy w10 va9.ownBlock → (fun W7 => W7.cell? ⟨pb, 0, none⟩ = some (.int .i64 tm)) w10) := Lib.hid (fun m9 v9 va9 ys9 w9 w10 h hg => by
      obtain ⟨a1, a2, a3, a4, a5, a6⟩ := h.ot pb (.inr rfl)
      exact (World.cell?_of_block (a := ⟨pb, 0, none⟩) ((hg.block pb a1 (fun e => a5 e.symm)).trans a6)).trans (HX6.out.1 0 _ rfl))
     have BACK : Hid (∀ m9 v9 va9 (ys9 : List At) w9, OfI n₀ b B d known W v student rb (fun k => ((Value.slice (some ⟨ba, oa, none⟩) nums.length nc).ownBlock = some k ∨ (Value.slice (some ⟨bp, op, none⟩) pts.length pc).ownBlock = some k) ∨ k = pb) W6 m9 v9 va9 (ys ++ ys9) w9 → OfI n₀ b B d known W v student rb (fun k => (Value.slice (some ⟨ba, oa, none⟩) nums.length nc).ownBlock = some k ∨ (Value.slice (some ⟨bp, op, none⟩) pts.length pc).ownBlock = some k) w5 m9 v9 va9 (recTo d student term known (nums.take j) ++ ((pts.take t).flatMap (attF d known n) ++ ys9)) w9) := Lib.hid (fun m9 v9 va9 ys9 w9 h => by
      rw [← List.append_assoc, ← hys]
      exact h.back (fun k hk => .inl hk) (fun k hk => by
       have h6 := HO2.out.ot k hk
       exact (HB6.out.block k h6.1).trans h6.2.2.2.2.2))
     have hrz : rb + 1 ≤ W6.heap.size := by have := HO6.out.bx.2.2; omega
     have HOD := Lib.hid (HO6.out.step (Below.refl W6.heap.size W6).drew)
     clear hec hcr hys
     go_upto_region 10 with fail
     refine wp_region_held_drew (S := (fun W7 => W7.cell? ⟨pb, 0, none⟩ = some (.int .i64 tm))) (by kernel_rfl) (SS.out _ _ _ _ _ HOD.out) (fun hHeld => ?_)
     refine wpAnyH_take (i := 0) (v := ?_) rfl (by kernel_rfl) (by kernel_rfl) (by kernel_rfl) (fun _ _ _ h => h) (Or.inl ⟨by rfl, ?_⟩) (by assumption) ?_
     rotate_left
     ·intro w hSw
      (try dsimp only at hSw)
      go_simp
      try with_reducible rfl
     simp only [Act.put, List.setIfInBounds_toArray, List.set_cons_zero, List.set_cons_succ]
     refine wpAnyH_take (i := 2) (v := ?_) rfl (by kernel_rfl) (by kernel_rfl) (by kernel_rfl) (fun _ _ _ h => h) (Or.inl ⟨by rfl, ?_⟩) (by assumption) ?_
     rotate_left
     ·intro w hSw
      (try dsimp only at hSw)
      go_simp
      try with_reducible rfl
     simp only [Act.put, List.setIfInBounds_toArray, List.set_cons_zero, List.set_cons_succ]
     refine wpAnyH_take (i := 3) (v := ?_) rfl (by kernel_rfl) (by kernel_rfl) (by kernel_rfl) (fun _ _ _ h => h) (Or.inl ⟨by rfl, ?_⟩) (by assumption) ?_
     rotate_left
     ·intro w hSw
      (try dsimp only at hSw)
      go_simp
      try with_reducible rfl
     simp only [Act.put, List.setIfInBounds_toArray, List.set_cons_zero, List.set_cons_succ]
     refine wpAnyH_take (i := 4) (v := ?_) rfl (by kernel_rfl) (by kernel_rfl) (by kernel_rfl) (fun _ _ _ h => h) (Or.inl ⟨by rfl, ?_⟩) (by assumption) ?_
     rotate_left
     ·intro w hSw
      (try dsimp only at hSw)
      go_simp
      try with_reducible rfl
     simp only [Act.put, List.setIfInBounds_toArray, List.set_cons_zero, List.set_cons_succ]
     refine wpAnyH_take (i := 5) (v := ?_) rfl (by kernel_rfl) (by kernel_rfl) (by kernel_rfl) (fun _ _ _ h => h) (Or.inl ⟨by rfl, ?_⟩) (by assumption) ?_
     rotate_left
     ·intro w hSw
      (try dsimp only at hSw)
      go_simp
      try with_reducible rfl
     simp only [Act.put, List.setIfInBounds_toArray, List.set_cons_zero, List.set_cons_succ]
     refine wpAnyH_take (i := 6) (v := ?_) rfl (by kernel_rfl) (by kernel_rfl) (by kernel_rfl) (fun _ _ _ h => h) (Or.inl ⟨by rfl, ?_⟩) (by assumption) ?_
     rotate_left
     ·intro w hSw
      (try dsimp only at hSw)
      go_simp
      try with_reducible rfl
     simp only [Act.put, List.setIfInBounds_toArray, List.set_cons_zero, List.set_cons_succ]
     refine wpAnyH_take (i := 7) (v := ?_) rfl (by kernel_rfl) (by kernel_rfl) (by kernel_rfl) (fun _ _ _ h => h) (Or.inl ⟨by rfl, ?_⟩) (by assumption) ?_
     rotate_left
     ·intro w hSw
      (try dsimp only at hSw)
      go_simp
      try with_reducible rfl
     simp only [Act.put, List.setIfInBounds_toArray, List.set_cons_zero, List.set_cons_succ]
     refine wpAnyH_take (i := 8) (v := ?_) rfl (by kernel_rfl) (by kernel_rfl) (by kernel_rfl) (fun _ _ _ h => h) (Or.inl ⟨by rfl, ?_⟩) (by assumption) ?_
     rotate_left
     ·intro w hSw
      (try dsimp only at hSw)
      go_simp
      try with_reducible rfl
     simp only [Act.put, List.setIfInBounds_toArray, List.set_cons_zero, List.set_cons_succ]
     refine wpAnyH_take (i := 9) (v := ?_) rfl (by kernel_rfl) (by kernel_rfl) (by kernel_rfl) (fun _ _ _ h => h) (Or.inl ⟨by rfl, ?_⟩) (by assumption) ?_
     rotate_left
     ·intro w hSw
      (try dsimp only at hSw)
      go_simp
      try with_reducible rfl
     simp only [Act.put, List.setIfInBounds_toArray, List.set_cons_zero, List.set_cons_succ]
     refine wpAnyH_take (i := 10) (v := ?_) rfl (by kernel_rfl) (by kernel_rfl) (by kernel_rfl) (fun _ _ _ h => h) (Or.inl ⟨by rfl, ?_⟩) (by assumption) ?_
     rotate_left
     ·intro w hSw
      (try dsimp only at hSw)
      go_simp
      try with_reducible rfl
     simp only [Act.put, List.setIfInBounds_toArray, List.set_cons_zero, List.set_cons_succ]
     refine wpAnyH_ready (rs := [1, 11]) (by kernel_rfl) (by simp) ?_
     refine AllReadyH.cons rfl (fun K hK => ?_) ?_
     ·have c1 := HOD.out.bx.1 1 _ rfl
      go_simp
      refine hK.out _ _ (by assumption) (fun hHeld => ?_)
      clear hK
      refine wpAnyH_ready (rs := [11]) (by kernel_rfl) (by simp) ?_
      refine AllReadyH.cons rfl (fun K hK => ?_) ?_
      ·go_simp
       refine (HC.out _ _ _ HOD.out.lk (Nat.le_trans hB HOD.out.fr.size) (by omega)).mono ?_
       rintro e wq2 ⟨rfl, vq2, hk2, hf2⟩
       have H2 := Lib.hid (HOD.out.call hk2 hf2)
       clear hk2 hf2
       refine hK.out _ _ (SS.out _ _ _ _ _ H2.out) (fun hHeld => ?_)
       clear hK
       refine wpAnyH_take (i := 12) (v := ?_) rfl (by kernel_rfl) (by kernel_rfl) (by kernel_rfl) (fun _ _ _ h => h) (Or.inl ⟨by rfl, ?_⟩) (by assumption) ?_
       rotate_left
       ·intro w hSw
        (try dsimp only at hSw)
        go_simp
        try with_reducible rfl
       simp only [Act.put, List.setIfInBounds_toArray, List.set_cons_zero, List.set_cons_succ]
       refine wpAnyH_take (i := 13) (v := ?_) rfl (by kernel_rfl) (by kernel_rfl) (by kernel_rfl) (fun _ _ _ h => h) (Or.inl ⟨by rfl, ?_⟩) (by assumption) ?_
       rotate_left
       ·intro w hSw
        (try dsimp only at hSw)
        go_simp
        try with_reducible rfl
       simp only [Act.put, List.setIfInBounds_toArray, List.set_cons_zero, List.set_cons_succ]
       refine wpAnyH_ready (rs := [14]) (by kernel_rfl) (by simp) ?_
       refine AllReadyH.cons rfl (fun K hK => ?_) ?_
       ·go_simp
        have H3 := Lib.hid (H2.out.step ((Below.refl _ _).alloc (Nat.le_refl _) (.cells #[.int .i64 n, .int .i64 tm, .int .i64 g, .int .i64 q, .int .i64 cr] 69)))
        refine hK.out _ _ (SS.out _ _ _ _ _ H3.out) (fun hHeld => ?_)
        clear hK
        refine wpAnyH_ready (rs := [15]) (by kernel_rfl) (by simp) ?_
        refine AllReadyH.cons rfl (fun K hK => ?_) ?_
        ·refine step_append_reads (en := At.enc) (sz := 5) (by rfl) _ _ _ (by rfl) At.enc_len5 At.enc_one5 (rb + 1) 69 i0 _ 40 Tryz.underlying47 HI0.out hz0 hz1 hz2 rfl (by decide) (.slice vA ys.length vc) ys (by rfl) H3.out.ow (wq2.heap.size + 1) (some ⟨wq2.heap.size, 0, none⟩) 1 [⟨n, tm, g, q, cr⟩] (by rfl) (reads_one wq2 At.enc ⟨n, tm, g, q, cr⟩ _ _ rfl 5 _ rfl) (fun h => by cases h) (by simp [maxLen]; omega) (by simp; omega) (by have := H3.out.bx.2.2; omega) ?_
         intro u4 wq4 k1 k2 k3
         have H4 := Lib.hid (H3.out.app k2 k3 k1)
         have hbx : Bx wq4 rb [.int .i64 student, .slice vA ys.length vc] := H3.out.bx.keep (P := fun y => y = rb) (Kp.of_grown2 k2 (fun y hy e => by have := H3.out.ow.base_le y e.symm; omega)) rfl
         have m0 := hbx.1 1 _ rfl
         have mf := hbx.2.1 1
         have mz := hbx.2.2
         have hs2 := S2.out _ _ _ _ _ _ H3.out k2
         obtain ⟨A9, c9, rfl, _, _⟩ := k1.shape
         rw [List.length_append] at H4
         simp only [List.length_append] at hK ⊢
         refine hK.out _ _ hs2 (fun hHeld => ?_)
         clear hK hbx k1 k2 k3
         refine wpAnyH_take (i := 16) (v := ?_) rfl (by kernel_rfl) (by kernel_rfl) (by kernel_rfl) (fun _ _ _ h => h) (Or.inl ⟨by rfl, ?_⟩) (by assumption) ?_
         rotate_left
         ·intro w hSw
          (try dsimp only at hSw)
          go_simp
          try with_reducible rfl
         simp only [Act.put, List.setIfInBounds_toArray, List.set_cons_zero, List.set_cons_succ]
         refine wpAnyH_ready (rs := [17]) (by kernel_rfl) (by simp) ?_
         refine AllReadyH.cons rfl (fun K hK => ?_) ?_
         ·go_simp
          refine hK.out _ _ (SS.out _ _ _ _ _ H4.out) (fun hHeld => ?_)
          clear hK
          refine wpAnyH_done (by kernel_rfl) ?_ _
          clear hHeld m0 mf mz hs2
          go_wp2_with fail
          go_roundw
          case rel => exact ⟨t + 1, m2 + 1, _, _, by omega, by go_num, by omega, by rw [HFT.out, HAT2.out]; exact BACK.out _ _ _ _ _ H4.out⟩
          case measure => simp [intOf]; omega
         exact AllReadyH.nil
        exact AllReadyH.nil
       exact AllReadyH.nil
      exact AllReadyH.nil
     refine AllReadyH.cons rfl (fun K hK => ?_) ?_
     ·go_simp
      refine (HC.out _ _ _ HOD.out.lk (Nat.le_trans hB HOD.out.fr.size) (by omega)).mono ?_
      rintro e wq5 ⟨rfl, vq5, hk5, hf5⟩
      have H5 := Lib.hid (HOD.out.call hk5 hf5)
      clear hk5 hf5
      refine hK.out _ _ (SS.out _ _ _ _ _ H5.out) (fun hHeld => ?_)
      clear hK
      refine wpAnyH_take (i := 12) (v := ?_) rfl (by kernel_rfl) (by kernel_rfl) (by kernel_rfl) (fun _ _ _ h => h) (Or.inl ⟨by rfl, ?_⟩) (by assumption) ?_
      rotate_left
      ·intro w hSw
       (try dsimp only at hSw)
       go_simp
       try with_reducible rfl
      simp only [Act.put, List.setIfInBounds_toArray, List.set_cons_zero, List.set_cons_succ]
      refine wpAnyH_take (i := 13) (v := ?_) rfl (by kernel_rfl) (by kernel_rfl) (by kernel_rfl) (fun _ _ _ h => h) (Or.inl ⟨by rfl, ?_⟩) (by assumption) ?_
      rotate_left
      ·intro w hSw
       (try dsimp only at hSw)
       go_simp
       try with_reducible rfl
      simp only [Act.put, List.setIfInBounds_toArray, List.set_cons_zero, List.set_cons_succ]
      refine wpAnyH_ready (rs := [1, 14]) (by kernel_rfl) (by simp) ?_
      refine AllReadyH.cons rfl (fun K hK => ?_) ?_
      ·have c6 := H5.out.bx.1 1 _ rfl
       go_simp
       refine hK.out _ _ (by assumption) (fun hHeld => ?_)
       clear hK
       refine wpAnyH_ready (rs := [14]) (by kernel_rfl) (by simp) ?_
       refine AllReadyH.cons rfl (fun K hK => ?_) ?_
       ·go_simp
        have H7 := Lib.hid (H5.out.step ((Below.refl _ _).alloc (Nat.le_refl _) (.cells #[.int .i64 n, .int .i64 tm, .int .i64 g, .int .i64 q, .int .i64 cr] 69)))
        refine hK.out _ _ (SS.out _ _ _ _ _ H7.out) (fun hHeld => ?_)
        clear hK
        refine wpAnyH_ready (rs := [15]) (by kernel_rfl) (by simp) ?_
        refine AllReadyH.cons rfl (fun K hK => ?_) ?_
        ·refine step_append_reads (en := At.enc) (sz := 5) (by rfl) _ _ _ (by rfl) At.enc_len5 At.enc_one5 (rb + 1) 69 i0 _ 40 Tryz.underlying47 HI0.out hz0 hz1 hz2 rfl (by decide) (.slice vA ys.length vc) ys (by rfl) H7.out.ow (wq5.heap.size + 1) (some ⟨wq5.heap.size, 0, none⟩) 1 [⟨n, tm, g, q, cr⟩] (by rfl) (reads_one wq5 At.enc ⟨n, tm, g, q, cr⟩ _ _ rfl 5 _ rfl) (fun h => by cases h) (by simp [maxLen]; omega) (by simp; omega) (by have := H7.out.bx.2.2; omega) ?_
         intro u8 wq8 k1 k2 k3
         have H8 := Lib.hid (H7.out.app k2 k3 k1)
         have hbx : Bx wq8 rb [.int .i64 student, .slice vA ys.length vc] := H7.out.bx.keep (P := fun y => y = rb) (Kp.of_grown2 k2 (fun y hy e => by have := H7.out.ow.base_le y e.symm; omega)) rfl
         have m0 := hbx.1 1 _ rfl
         have mf := hbx.2.1 1
         have mz := hbx.2.2
         have hs2 := S2.out _ _ _ _ _ _ H7.out k2
         obtain ⟨A9, c9, rfl, _, _⟩ := k1.shape
         rw [List.length_append] at H8
         simp only [List.length_append] at hK ⊢
         refine hK.out _ _ hs2 (fun hHeld => ?_)
         clear hK hbx k1 k2 k3
         refine wpAnyH_take (i := 16) (v := ?_) rfl (by kernel_rfl) (by kernel_rfl) (by kernel_rfl) (fun _ _ _ h => h) (Or.inl ⟨by rfl, ?_⟩) (by assumption) ?_
         rotate_left
         ·intro w hSw
          (try dsimp only at hSw)
          go_simp
          try with_reducible rfl
         simp only [Act.put, List.setIfInBounds_toArray, List.set_cons_zero, List.set_cons_succ]
         refine wpAnyH_ready (rs := [17]) (by kernel_rfl) (by simp) ?_
         refine AllReadyH.cons rfl (fun K hK => ?_) ?_
         ·go_simp
          refine hK.out _ _ (SS.out _ _ _ _ _ H8.out) (fun hHeld => ?_)
          clear hK
          refine wpAnyH_done (by kernel_rfl) ?_ _
          clear hHeld m0 mf mz hs2
          go_wp2_with fail
          go_roundw
          case rel => exact ⟨t + 1, m2 + 1, _, _, by omega, by go_num, by omega, by rw [HFT.out, HAT2.out]; exact BACK.out _ _ _ _ _ H8.out⟩
          case measure => simp [intOf]; omega
         exact AllReadyH.nil
        exact AllReadyH.nil
       exact AllReadyH.nil
      refine AllReadyH.cons rfl (fun K hK => ?_) ?_
      ·go_simp
       have H9 := Lib.hid (H5.out.step ((Below.refl _ _).alloc (Nat.le_refl _) (.cells #[.int .i64 n, .int .i64 tm, .int .i64 g, .int .i64 q, .int .i64 cr] 69)))
       refine hK.out _ _ (SS.out _ _ _ _ _ H9.out) (fun hHeld => ?_)
       clear hK
       refine wpAnyH_ready (rs := [1]) (by kernel_rfl) (by simp) ?_
       refine AllReadyH.cons rfl (fun K hK => ?_) ?_
       ·have c10 := H9.out.bx.1 1 _ rfl
        go_simp
        refine hK.out _ _ (by assumption) (fun hHeld => ?_)
        clear hK
        refine wpAnyH_ready (rs := [15]) (by kernel_rfl) (by simp) ?_
        refine AllReadyH.cons rfl (fun K hK => ?_) ?_
        ·refine step_append_reads (en := At.enc) (sz := 5) (by rfl) _ _ _ (by rfl) At.enc_len5 At.enc_one5 (rb + 1) 69 i0 _ 40 Tryz.underlying47 HI0.out hz0 hz1 hz2 rfl (by decide) (.slice vA ys.length vc) ys (by rfl) H9.out.ow (wq5.heap.size + 1) (some ⟨wq5.heap.size, 0, none⟩) 1 [⟨n, tm, g, q, cr⟩] (by rfl) (reads_one wq5 At.enc ⟨n, tm, g, q, cr⟩ _ _ rfl 5 _ rfl) (fun h => by cases h) (by simp [maxLen]; omega) (by simp; omega) (by have := H9.out.bx.2.2; omega) ?_
         intro u11 wq11 k1 k2 k3
         have H11 := Lib.hid (H9.out.app k2 k3 k1)
         have hbx : Bx wq11 rb [.int .i64 student, .slice vA ys.length vc] := H9.out.bx.keep (P := fun y => y = rb) (Kp.of_grown2 k2 (fun y hy e => by have := H9.out.ow.base_le y e.symm; omega)) rfl
         have m0 := hbx.1 1 _ rfl
         have mf := hbx.2.1 1
         have mz := hbx.2.2
         have hs2 := S2.out _ _ _ _ _ _ H9.out k2
         obtain ⟨A9, c9, rfl, _, _⟩ := k1.shape
         rw [List.length_append] at H11
         simp only [List.length_append] at hK ⊢
         refine hK.out _ _ hs2 (fun hHeld => ?_)
         clear hK hbx k1 k2 k3
         refine wpAnyH_take (i := 16) (v := ?_) rfl (by kernel_rfl) (by kernel_rfl) (by kernel_rfl) (fun _ _ _ h => h) (Or.inl ⟨by rfl, ?_⟩) (by assumption) ?_
         rotate_left
         ·intro w hSw
          (try dsimp only at hSw)
          go_simp
          try with_reducible rfl
         simp only [Act.put, List.setIfInBounds_toArray, List.set_cons_zero, List.set_cons_succ]
         refine wpAnyH_ready (rs := [17]) (by kernel_rfl) (by simp) ?_
         refine AllReadyH.cons rfl (fun K hK => ?_) ?_
         ·go_simp
          refine hK.out _ _ (SS.out _ _ _ _ _ H11.out) (fun hHeld => ?_)
          clear hK
          refine wpAnyH_done (by kernel_rfl) ?_ _
          clear hHeld m0 mf mz hs2
          go_wp2_with fail
          go_roundw
          case rel => exact ⟨t + 1, m2 + 1, _, _, by omega, by go_num, by omega, by rw [HFT.out, HAT2.out]; exact BACK.out _ _ _ _ _ H11.out⟩
          case measure => simp [intOf]; omega
         exact AllReadyH.nil
        exact AllReadyH.nil
       exact AllReadyH.nil
      exact AllReadyH.nil
     exact AllReadyH.nil
    ·obtain rfl : t = pts.length := by omega
     have HRT : Hid (recTo d student term known (nums.take (j + 1)) = recTo d student term known (nums.take j) ++ attsN d student term known n) := Lib.hid (flatM_at _ HXK.out)
     have HPA : Hid ((pts.take pts.length).flatMap (attF d known n) = attsN d student term known n) := Lib.hid (by rw [List.take_length, HPT.out]; rfl)
     repeat (first | go_values | go_skip | go_guarded | go_step | go_upon)
     go_roundw
     case rel => exact ⟨j + 1, m2, v4, vb, by omega, by go_num, by omega, by
      rw [HRT.out, ← HPA.out]
      exact HO2.out.back (fun k hk => .inl hk) (fun k hk => (HO5.out.ot k hk).2.2.2.2.2)⟩
     case measure => simp [intOf]; omega
  ·obtain rfl : j = nums.length := by omega
   obtain ⟨ys, hys⟩ : ∃ ys, ys = recTo d student term known (nums.take nums.length) := ⟨_, rfl⟩
   have HRF : Hid (recF d student term known = sortA ys) := Lib.hid (by rw [hys, List.take_length, HNU.out]; rfl)
   have hyl : ys.length ≤ 110000000 := by
    rw [hys]
    have h1 := recTo_len d student term known (nums.take nums.length)
    have h3 : (nums.take nums.length).length ≤ 100000 := by simp; omega
    omega
   rw [← hys] at HO
   obtain ⟨vA, vc, rfl, _, _⟩ := HO.out.ow.shape
   have HS := Lib.hid (sortA_any ys vA vc (rb + 1) wo HO.out.ow (by omega))
   have c1 := HO.out.bx.1 1 _ rfl
   have cz := HO.out.bx.2.2
   clear hys ho
   go_wp2_with fail
   refine HS.out.mono ?_
   rintro e w9 ⟨rfl, ho9, hg9⟩
   have H9 := Lib.hid (HO.out.turn hg9 ho9)
   obtain ⟨x0, x1, x2⟩ := H9.out.bx
   have c0 := x0 0 _ rfl
   have c1 := x0 1 _ rfl
   have f0 := x1 0
   have f1 := x1 1
   clear x0 x1 ho9 hg9 HS
   go_wp2_with fail
   have hblk : ∀ k, k ≠ rb → ((w9.setCell ⟨rb, 0, none⟩ (.int .i64 student)).setCell ⟨rb, 1, none⟩ (.slice vA ys.length vc)).heap[k]? = w9.heap[k]? := fun k hk => by
    rw [Below.heap_setCell _ _ _ _ (by first | exact hk | exact hk.symm), Below.heap_setCell _ _ _ _ (by first | exact hk | exact hk.symm)]
   have hsz : w9.heap.size ≤ ((w9.setCell ⟨rb, 0, none⟩ (.int .i64 student)).setCell ⟨rb, 1, none⟩ (.slice vA ys.length vc)).heap.size := by simp [World.setCell]
   have hF := H9.out.fr
   have hrz := H9.out.rz
   have hz1 := H9.out.lk.z1
   have hz2 := H9.out.lk.z2
   refine bodyPost_ret (v := .agg #[.int .i64 student, .slice vA ys.length vc]) (by simp [results, Tryz.results32, go_sem, c0, c1, x2]) rfl ⟨⟨vA, ys.length, vc⟩, v2, rfl, ?_, ?_, ?_⟩
   ·rw [HRF.out]
    exact Owns.base' ((H9.out.ow.farS (by omega) _).farS (by omega) _) (by omega)
   ·refine (H9.out.lk.mono (by omega)).far hsz (fun k hk hc => hblk k (fun e => ?_))
    rcases hc with hc | hc | hc
    ·omega
    ·omega
    ·exact (H9.out.ap k hc).1 e
   ·exact ⟨hF.os, hF.tape, hF.output, Nat.le_trans hF.size hsz, fun k hk hb hv => (hblk k (by omega)).trans (hF.block k hk hb hv), hF.own⟩
end Go.Proofs.YtalmbigebjbaoaaGreatDoor
