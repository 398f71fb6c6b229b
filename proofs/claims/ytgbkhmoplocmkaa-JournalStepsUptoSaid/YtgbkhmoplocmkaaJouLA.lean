/- Journals: plain laws of JournalSteps and JournalSurvives. -/
import Derived.Test.YtgbkhmoplocmkaaJouZ
namespace Go.Proofs.Ytgbkhmoplocmkaa
open Go.RowKit Go.Shelf
set_option linter.unusedSimpArgs false
set_option linter.unusedVariables false
set_option maxRecDepth 20000

theorem sumK_take_le (rs : List (List Int)) (m : Nat) : sumK (rs.take m) ≤ sumK rs := by
  have h := sumK_app (rs.take m) (rs.drop m)
  rw [List.take_append_drop] at h
  exact h ▸ Nat.le_add_right _ _
theorem sumK_mono (rs : List (List Int)) {i j : Nat} (h : i ≤ j) : sumK (rs.take i) ≤ sumK (rs.take j) := by
  have h1 := sumK_take_le (rs.take j) i
  rw [List.take_take, Nat.min_eq_left h] at h1
  exact h1
theorem JIn.of {n s : Nat} {rs : List (List Int)} (h1 : 1 ≤ n) (h2 : n ≤ 4096) (h3 : sumK rs ≤ n) (h4 : ∀ b ∈ rs, Byt b) (h5 : ∀ b ∈ rs, b.length ≤ 9223372036854775696) (h6 : s ≤ rs.length) : JIn n ⟨rs, n, s⟩ := by
  have hu := usedR_sum (Nat.le_trans h3 (Nat.le_trans h2 (by decide)))
  refine ⟨?_, rfl, h1, h2, h3, h4, h5⟩
  simp only [validJ, Bool.not_eq_true', Bool.or_eq_false_iff, decide_eq_false_iff_not, hu]
  exact ⟨Int.not_lt.2 (Int.ofNat_le.2 h1), Int.not_lt.2 (Int.ofNat_le.2 h2), Int.not_lt.2 (Int.natCast_nonneg _), Int.not_lt.2 (Int.ofNat_le.2 h6), Int.not_lt.2 (Int.ofNat_le.2 h3)⟩
theorem JIn.take {n s m t : Nat} {rs : List (List Int)} (h : JIn n ⟨rs, n, s⟩) (ht : t ≤ (rs.take m).length) : JIn n ⟨rs.take m, n, t⟩ :=
  JIn.of h.n1 h.n96 (Nat.le_trans (sumK_take_le rs m) h.fit) (fun b hb => h.byt b (List.mem_of_mem_take hb)) (fun b hb => h.long b (List.mem_of_mem_take hb)) ht
/-- the records of a journal are few and short -/
theorem sumK_len : ∀ (rs : List (List Int)), rs.length ≤ sumK rs
  | [] => Nat.zero_le _
  | b :: r => by
    have h1 := sumK_len r
    have h2 := sectK_pos b
    have e1 : sumK (b :: r) = sectK b + sumK r := by unfold sumK; rw [List.map_cons, List.sum_cons]
    rw [e1, List.length_cons]
    generalize sumK r = K at *
    generalize sectK b = S at *
    omega
theorem JIn.few {n : Nat} {l : Jl} (h : JIn n l) : l.recs.length ≤ n := Nat.le_trans (sumK_len _) h.fit
theorem sect_short {b : List Int} (hl : b.length ≤ 9223372036854775696) {n : Nat} (h : sectK b ≤ n) (hn : n ≤ 40) : b.length ≤ 4480 := by
  have h1 := sect_all hl
  generalize sectK b = S at *
  omega
/-- what Append needs -/
theorem JIn.short {n : Nat} {l : Jl} (h : JIn n l) {b : List Int} (hb : Byt b) (hl : b.length ≤ 9223372036854775696) (hn : n ≤ 40) (ha : (appendJ l b).2 = 0) : b.length ≤ 100000 := by
  rcases h.append hb hl with ⟨_, _, h2⟩ | ⟨h1, _⟩
  · exact Nat.le_trans (sect_short hl (Nat.le_trans (Nat.le_add_left _ _) h2) hn) (by decide)
  · rw [h1] at ha; cases ha
/-- how far a journal was synced plays no part in what it takes -/
theorem addJ_synced {n : Nat} : ∀ (rs : List (List Int)) {r : List (List Int)} {s t : Int}, JIn n ⟨r, n, s⟩ → JIn n ⟨r, n, t⟩ → (∀ b ∈ rs, Byt b ∧ b.length ≤ 9223372036854775696) → (addJ ⟨r, n, s⟩ rs).recs = (addJ ⟨r, n, t⟩ rs).recs
  | [], r, s, t, _, _, _ => rfl
  | b :: rs, r, s, t, h, h2, hr => by
    have hb := hr b (List.mem_cons_self ..)
    have hr2 : ∀ b ∈ rs, Byt b ∧ b.length ≤ 9223372036854775696 := fun x hx => hr x (List.mem_cons_of_mem _ hx)
    rcases h.append hb.1 hb.2 with ⟨a1, a2, a3⟩ | ⟨a1, a3⟩ <;> rcases h2.append hb.1 hb.2 with ⟨b1, b2, b3⟩ | ⟨b1, b3⟩
    · have e1 : addJ ⟨r, n, s⟩ (b :: rs) = addJ ⟨r ++ [b], n, s⟩ rs := by simp [addJ, a1]
      have e2 : addJ ⟨r, n, t⟩ (b :: rs) = addJ ⟨r ++ [b], n, t⟩ rs := by simp [addJ, b1]
      rw [e1, e2]
      exact addJ_synced rs a2 b2 hr2
    · exact absurd a3 (Nat.not_le.2 b3)
    · exact absurd b3 (Nat.not_le.2 a3)
    · have e1 : addJ ⟨r, n, s⟩ (b :: rs) = addJ ⟨r, n, s⟩ rs := by simp [addJ, a1]
      have e2 : addJ ⟨r, n, t⟩ (b :: rs) = addJ ⟨r, n, t⟩ rs := by simp [addJ, b1]
      rw [e1, e2]
      exact addJ_synced rs h h2 hr2

/-- a disk that nothing was written to -/
def newK (n : Nat) : Dk := ⟨List.replicate n zeroSec, [], -1, false⟩
theorem newK_eq {n : Nat} (h1 : 1 ≤ n) (h2 : n ≤ 4096) : newD (n : Int) = (newK n, 0) := by
  unfold newD
  rw [if_pos ⟨Int.ofNat_le.2 h1, Int.ofNat_le.2 h2⟩]
  rfl
theorem zero_num : num4 zeroSec = 0 ∧ numE zeroSec = 0 := by decide
theorem zero_byt : Byt zeroSec := fun b hb => by rw [List.eq_of_mem_replicate hb]; decide
theorem newK_cln {n : Nat} (h1 : 1 ≤ n) (h2 : n ≤ 4096) : Cln (newK n) :=
  Cln.mk_ (by rw [List.length_replicate]; exact h1) (by rw [List.length_replicate]; exact h2) (fun s hs => by rw [List.eq_of_mem_replicate hs]; exact ⟨List.length_replicate .., zero_byt⟩) (by decide)
theorem newK_gen (n : Nat) : genF (newK n).secs = 0 :=
  Int.le_antisymm (genF_most (fun s hs => by rw [List.eq_of_mem_replicate hs, zero_num.1, zero_num.2]; decide) (Int.le_refl _)) (genF_pos _)
theorem zero_bad : goodB zeroSec 0 = false := by
  unfold goodB
  have : shapeOk ((zeroSec.drop 12).take (zeroSec.getD 11 0).toNat).length (zeroSec.getD 10 0) = false ∨ numB (zeroSec.take 4) = 0 := .inr (by decide)
  cases h : goodB zeroSec 0
  · exact h
  · exfalso; revert h; decide +kernel
theorem newK_recs (n : Nat) : recsJ (newK n).secs = [] := by
  refine chn_recsJ (Chn.nil 0 0) (recGo_none 0 0 0 [] rfl (Nat.le_refl _) (fun i h1 h2 => absurd h2 (Nat.not_lt_zero _)) (fun s hs => ?_))
  have e := List.eq_of_mem_replicate (List.mem_of_getElem? hs)
  subst e
  unfold okB
  rw [show ((0 : Nat) : Int) = 0 from rfl, zero_bad]
  rfl

/-- a disk between two rounds: it runs, nothing waits, its journal can be opened -/
structure Sv (n i : Nat) (d : Dk) : Prop where
  cln : Cln d
  left : d.left = -1
  len : d.secs.length = n
  gen : genF d.secs ≤ i
  jin : JIn n ⟨recsJ d.secs, n, (recsJ d.secs).length⟩
theorem Sv.open_ {n i : Nat} {d : Dk} (h : Sv n i d) : openJ d = (⟨recsJ d.secs, n, (recsJ d.secs).length⟩, 0) := by
  rw [openJ_ok h.cln.valid h.cln.runs (by rw [h.cln.pend]; rfl), h.len]
theorem Sv.new_ {n : Nat} (h1 : 1 ≤ n) (h2 : n ≤ 4096) : Sv n 0 (newK n) := by
  refine ⟨newK_cln h1 h2, rfl, List.length_replicate .., by rw [newK_gen]; exact Int.le_refl _, ?_⟩
  rw [newK_recs]
  exact JIn.of h1 h2 (by unfold sumK; exact Nat.zero_le _) (by simp) (by simp) (Nat.le_refl _)
theorem Sv.shape {n i : Nat} {d : Dk} (h : Sv n i d) : d = ⟨d.secs, [], -1, false⟩ := by
  obtain ⟨s, p, l, b⟩ := d
  have h1 := h.cln.pend
  have h2 := h.cln.runs
  have h3 := h.left
  simp only at h1 h2 h3
  rw [h1, h2, h3]
theorem Sv.stop {n i : Nat} {d : Dk} (h : Sv n i d) {x : Int} (h1 : 0 ≤ x) (h2 : x ≤ 65536) : stopD d x = (⟨d.secs, [], x, false⟩, 0) := by
  unfold stopD
  rw [if_pos (by unfold runsD; rw [h.cln.valid, h.cln.runs]; rfl), if_pos ⟨h1, h2⟩, h.cln.pend, h.cln.runs]
theorem Sv.with_ {n i : Nat} {d : Dk} (h : Sv n i d) {x : Int} (h1 : -1 ≤ x ∧ x ≤ 65536) : Cln ⟨d.secs, [], x, false⟩ := by
  obtain ⟨s1, s2, s3, _⟩ := h.cln.sizes
  exact Cln.mk_ s1 s2 (fun s hs => ⟨s3 s hs, h.cln.bytes s hs⟩) h1
theorem Cln.again {d : Dk} (h : Cln d) : Cln (restartD d) := by
  obtain ⟨s1, s2, s3, _⟩ := h.sizes
  exact Cln.mk_ s1 s2 (fun s hs => ⟨s3 s hs, h.bytes s hs⟩) (by decide)
theorem Cln.same {d : Dk} (h : Cln d) (hl : d.left = -1) : restartD d = d := by
  obtain ⟨s, p, l, b⟩ := d
  have h1 := h.pend
  have h2 := h.runs
  simp only at h1 h2 hl
  rw [h1, h2, hl]
  rfl
theorem recs_split {n : Nat} {l0 l : Jl} {ms : List (List Int)} (h : l.recs = l0.recs ++ ms) : l0.recs = l.recs.take l0.recs.length := by rw [h, List.take_left]
/-- one round: records appended, the disk set to stop or not, a Sync, a restart -/
theorem sv_round {n i : Nat} {d : Dk} (h : Sv n i d) {rs : List (List Int)} (hr : ∀ b ∈ rs, Byt b ∧ b.length ≤ 9223372036854775696) (hi : i < 1000000) {x : Int} (hx : -1 ≤ x ∧ x ≤ 65536) {l : Jl} (hl : l = addJ (openJ d).1 rs) :
    JIn n l ∧ l.synced = (recsJ d.secs).length ∧ l.many = n ∧ (recsJ d.secs).length ≤ l.recs.length ∧ ∃ d', Sv n (i + 1) (restartD d') ∧
      ((syncJ l ⟨d.secs, [], x, false⟩ = (⟨l.recs, n, l.recs.length⟩, d', 0) ∧ recsJ d'.secs = l.recs ∧ (x = -1 → restartD d' = d')) ∨
       (0 ≤ x ∧ syncJ l ⟨d.secs, [], x, false⟩ = (Jl.zero, d', 450) ∧ ∃ m, (recsJ d.secs).length ≤ m ∧ m ≤ l.recs.length ∧ recsJ d'.secs = l.recs.take m)) := by
  rw [h.open_] at hl
  obtain ⟨j1, j2, j3, ms, j4⟩ := addJ_in rs h.jin hr
  rw [← hl] at j1 j2 j3 j4
  simp only at j2 j3 j4
  have hle : (recsJ d.secs).length ≤ l.recs.length := by rw [j4, List.length_append]; exact Nat.le_add_right _ _
  have htk : recsJ d.secs = l.recs.take (recsJ d.secs).length := by rw [j4, List.take_left]
  have hg := h.gen
  refine ⟨j1, j3, j2, hle, ?_⟩
  rcases sync_law (l := l) (d := ⟨d.secs, [], x, false⟩) (sy := (recsJ d.secs).length) j1.valid (h.with_ hx) (by rw [j2]; exact congrArg Int.ofNat h.len.symm) j3 htk j1.byt (by show genF d.secs + 1 < _; omega) (by show sumK l.recs ≤ d.secs.length; rw [h.len]; exact j1.fit) j1.long with ⟨d', k1, k2, k3, k4, k5, k6, _⟩ | ⟨d', k1, k2, k3, k4, ⟨m, m1, m2, m3⟩, k5⟩
  · refine ⟨d', ⟨k2.again, rfl, k3.trans h.len, ?_, ?_⟩, .inl ⟨by rw [k1, j2], k4, fun hx1 => k2.same (k6 hx1)⟩⟩
    · show genF d'.secs ≤ _
      simp only at k5
      omega
    · show JIn n ⟨recsJ d'.secs, n, (recsJ d'.secs).length⟩
      rw [k4]
      exact JIn.of j1.n1 j1.n96 j1.fit j1.byt j1.long (Nat.le_refl _)
  · refine ⟨d', ⟨k3, rfl, k4.trans h.len, ?_, ?_⟩, .inr ⟨k2, k1, m, m1, m2, m3⟩⟩
    · show genF d'.secs ≤ _
      simp only at k5
      omega
    · show JIn n ⟨recsJ d'.secs, n, (recsJ d'.secs).length⟩
      rw [m3]
      exact JIn.of j1.n1 j1.n96 (Nat.le_trans (sumK_take_le _ _) j1.fit) (fun b hb => j1.byt b (List.mem_of_mem_take hb)) (fun b hb => j1.long b (List.mem_of_mem_take hb)) (Nat.le_refl _)
/-- nothing to write -/
theorem sync_none {n i : Nat} {d : Dk} (h : Sv n i d) (hi : i < 1000000) : syncJ ⟨recsJ d.secs, n, (recsJ d.secs).length⟩ d = (⟨recsJ d.secs, n, (recsJ d.secs).length⟩, d, 0) := by
  have hg := h.gen
  unfold syncJ
  rw [if_pos h.jin.valid, if_pos h.cln.valid, h.cln.runs, if_neg (by simp), if_pos (by show (n : Int) = _; rw [h.len]), if_pos (by rw [h.cln.pend]; rfl), if_pos ?_, if_pos rfl]
  unfold goodJ
  simp only [Int.toNat_natCast, List.take_length, decide_true, Bool.true_and, Bool.not_eq_true', decide_eq_false_iff_not]
  omega
/-- syncing in steps -/
theorem steps_law {a b : List (List Int)} (ha : ∀ x ∈ a, Byt x ∧ x.length ≤ 9223372036854775696) (hb : ∀ x ∈ b, Byt x ∧ x.length ≤ 9223372036854775696) {A B : List (List Int)} (hA : A = (addJ ⟨[], 40, 0⟩ a).recs) (hB : B = (addJ (addJ ⟨[], 40, 0⟩ a) b).recs) :
    newD 40 = (newK 40, 0) ∧ openJ (newK 40) = (⟨[], 40, 0⟩, 0) ∧ JIn 40 ⟨[], 40, 0⟩ ∧ JIn 40 ⟨A, 40, 0⟩ ∧ JIn 40 ⟨A, 40, A.length⟩ ∧
    addJ ⟨[], 40, 0⟩ a = ⟨A, 40, 0⟩ ∧ addJ ⟨A, 40, 0⟩ b = ⟨B, 40, 0⟩ ∧ addJ ⟨A, 40, A.length⟩ b = ⟨B, 40, A.length⟩ ∧
    ∃ c x y, syncJ ⟨B, 40, 0⟩ (newK 40) = (⟨B, 40, B.length⟩, c, 0) ∧ syncJ ⟨A, 40, 0⟩ (newK 40) = (⟨A, 40, A.length⟩, x, 0) ∧ syncJ ⟨B, 40, A.length⟩ x = (⟨B, 40, B.length⟩, y, 0) ∧ syncJ ⟨B, 40, B.length⟩ y = (⟨B, 40, B.length⟩, y, 0) ∧
      openJ c = (⟨B, 40, B.length⟩, 0) ∧ openJ y = (⟨B, 40, B.length⟩, 0) := by
  have hn : newD 40 = (newK 40, 0) := newK_eq (n := 40) (by decide) (by decide)
  have h0 : Sv 40 0 (newK 40) := Sv.new_ (by decide) (by decide)
  have ho := h0.open_
  rw [newK_recs] at ho
  have ho : openJ (newK 40) = (⟨[], 40, 0⟩, 0) := ho
  have hj := h0.jin
  rw [newK_recs] at hj
  have hj : JIn 40 ⟨[], 40, 0⟩ := hj
  obtain ⟨a1, a2, a3, ms, a4⟩ := addJ_in a hj ha
  obtain ⟨b1, b2, b3, ns, b4⟩ := addJ_in b a1 hb
  have eA : addJ ⟨[], 40, 0⟩ a = ⟨A, 40, 0⟩ := by
    rw [hA]
    generalize addJ ⟨[], 40, 0⟩ a = l at *
    obtain ⟨r, m, s⟩ := l
    simp only at a2 a3
    rw [a2, a3]
  have jA : JIn 40 ⟨A, 40, 0⟩ := eA ▸ a1
  have jA2 : JIn 40 ⟨A, 40, A.length⟩ := JIn.of (by decide) (by decide) jA.fit jA.byt jA.long (Nat.le_refl _)
  rw [eA] at hB b1 b2 b3 b4
  have eB : addJ ⟨A, 40, 0⟩ b = ⟨B, 40, 0⟩ := by
    rw [hB]
    generalize addJ ⟨A, 40, 0⟩ b = l at *
    obtain ⟨r, m, s⟩ := l
    simp only at b2 b3
    rw [b2, b3]
  obtain ⟨c1, c2, c3, os, c4⟩ := addJ_in b jA2 hb
  have eC0 : (addJ ⟨A, 40, A.length⟩ b).recs = (addJ ⟨A, 40, 0⟩ b).recs := addJ_synced b jA2 jA hb
  rw [eB] at eC0
  have eC : addJ ⟨A, 40, A.length⟩ b = ⟨B, 40, A.length⟩ := by
    generalize addJ ⟨A, 40, A.length⟩ b = l at *
    obtain ⟨r, m, s⟩ := l
    simp only at c2 c3 eC0
    rw [c2, c3, eC0]
  have sh := h0.shape
  -- both at once
  obtain ⟨-, -, -, -, c, v1, hc⟩ := sv_round h0 (rs := a ++ b) (fun x hx => (List.mem_append.1 hx).elim (ha x) (hb x)) (by decide) (x := -1) (by decide) (l := ⟨B, 40, 0⟩) (by rw [ho, addJ_app, eA, eB])
  rw [← sh] at hc
  obtain ⟨s1, s2, s3⟩ := hc.resolve_right (fun h => absurd h.1 (by decide))
  rw [s3 rfl] at v1
  -- the first
  obtain ⟨-, -, -, -, x, w1, hx⟩ := sv_round h0 (rs := a) ha (by decide) (x := -1) (by decide) (l := ⟨A, 40, 0⟩) (by rw [ho, eA])
  rw [← sh] at hx
  obtain ⟨t1, t2, t3⟩ := hx.resolve_right (fun h => absurd h.1 (by decide))
  rw [t3 rfl] at w1
  have hox := w1.open_
  rw [t2] at hox
  obtain ⟨-, -, -, -, y, u1, hy⟩ := sv_round w1 (rs := b) hb (by decide) (x := -1) (by decide) (l := ⟨B, 40, A.length⟩) (by rw [hox]; exact eC.symm)
  rw [← w1.shape] at hy
  obtain ⟨r1, r2, r3⟩ := hy.resolve_right (fun h => absurd h.1 (by decide))
  rw [r3 rfl] at u1
  have hn := sync_none u1 (by decide)
  have hoc := v1.open_
  have hoy := u1.open_
  simp only at s1 s2 t1 t2 r1 r2
  rw [r2] at hn hoy
  rw [s2] at hoc
  exact ⟨newK_eq (n := 40) (by decide) (by decide), ho, hj, jA, jA2, eA, eB, eC, c, x, y, s1, t1, r1, hn, hoc, hoy⟩
theorem addJ_snoc (l : Jl) (rs : List (List Int)) {i : Nat} {b : List Int} (h : rs[i]? = some b) : addJ l (rs.take (i + 1)) = (if (appendJ (addJ l (rs.take i)) b).2 = 0 then (appendJ (addJ l (rs.take i)) b).1 else addJ l (rs.take i)) := by
  have e : rs.take (i + 1) = rs.take i ++ [b] := by rw [List.take_add_one, h]; rfl
  rw [e, addJ_app]
  rfl
end Go.Proofs.Ytgbkhmoplocmkaa
