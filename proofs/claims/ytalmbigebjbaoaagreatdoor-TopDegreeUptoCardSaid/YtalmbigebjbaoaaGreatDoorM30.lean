/- TopDegree, what its proof leans on: the texts TopK, TopP, TopR. -/
import Derived.Test.YtalmbigebjbaoaaGreatDoorM29
import Derived.Test.YtalmbigebjbaoaaGreatDoorM26
import Derived.Deep.MidRow
import Derived.Laws.CopyRow
import Derived.Laws.CopyOwn
import Derived.Laws.ResultCell
namespace Go.Proofs.YtalmbigebjbaoaaGreatDoor
open Go.RowKit Go.Shelf
set_option linter.unusedSimpArgs false
set_option linter.unusedVariables false
attribute [local go_sem] Oper.semAt_some
def Cr.Few (x : Cr) : Prop := (x.need.parts 1).length ≤ 100000 ∧ (x.bar.parts 1).length ≤ 100000
def goodC (x : Cr) : Bool := inB x.number 0 4095 && (inB x.credits 1 60 && (inB x.again 0 2 && (ruleF x.need && ruleF x.bar)))
set_option maxRecDepth 100000 in
set_option maxHeartbeats 4000000 in
theorem bkValidCourse_any {P : Nat → Prop} (x : Cr) (w : World) (h : x.Ok w P) (hk : KindsAt w) (hl : x.Few) :
 Calls Tryz.prog 145 #[x.v] w fun e w' => e = .returned (.bool (goodC x)) ∧ Below w.heap.size w w' := by
 have HA := Lib.hid (fun W (hb : Below w.heap.size w W) => ruCheck_any x.need W (h.1.step hb) (hk.step hb) hl.1)
 have HD := Lib.hid (fun W (hb : Below w.heap.size w W) => ruCheck_any x.bar W (h.2.step hb) (hk.step hb) hl.2)
 have HX0 := Lib.hid (Bx.new w x.enc 123)
 have HB0 : Hid (Below w.heap.size w (w.alloc (.cells x.enc.toArray 123))) := Lib.hid ((Below.refl _ _).alloc (Nat.le_refl _) _)
 clear h hk hl
 obtain ⟨E, hE⟩ : ∃ E, E = goodC x := ⟨_, rfl⟩
 rw [← hE]
 unfold goodC at hE
 have HE := Lib.hid hE
 clear hE
 obtain ⟨x0, x1, x2, x3, ⟨o1, g1, m1, n1, d1, ks1, s1⟩, ⟨o2, g2, m2, n2, d2, ks2, s2⟩⟩ := x
 simp only [Cr.v, Cr.enc, RT.v, RT.op, RT.course, RT.nm, RT.n, RT.d, RT.s] at *
 go_enter Tryz.func145, Tryz.ntmps145
 go_wp2_with fail
 refine (bkIn_any _ _ _ _).mono ?_
 obtain ⟨t1, ht1⟩ : ∃ b, b = inB x1 0 4095 := ⟨_, rfl⟩
 rw [← ht1]
 have Ht1 := Lib.hid ht1
 clear ht1
 rintro e w1 ⟨rfl, rfl⟩
 cases t1
 ·have HF : Hid (E = false) := Lib.hid (by rw [HE.out, ← Ht1.out]; simp)
  go_wp2_with fail
  go_ret
  exact ⟨by rw [HF.out]; rfl, HB0.out⟩
 go_wp2_with fail
 refine (bkIn_any _ _ _ _).mono ?_
 obtain ⟨t2, ht2⟩ : ∃ b, b = inB x2 1 60 := ⟨_, rfl⟩
 rw [← ht2]
 have Ht2 := Lib.hid ht2
 clear ht2
 rintro e w1 ⟨rfl, rfl⟩
 cases t2
 ·have HF : Hid (E = false) := Lib.hid (by rw [HE.out, ← Ht2.out]; simp)
  go_wp2_with fail
  go_ret
  exact ⟨by rw [HF.out]; rfl, HB0.out⟩
 go_wp2_with fail
 refine (bkIn_any _ _ _ _).mono ?_
 obtain ⟨t3, ht3⟩ : ∃ b, b = inB x3 0 2 := ⟨_, rfl⟩
 rw [← ht3]
 have Ht3 := Lib.hid ht3
 clear ht3
 rintro e w1 ⟨rfl, rfl⟩
 cases t3
 ·have HF : Hid (E = false) := Lib.hid (by rw [HE.out, ← Ht3.out]; simp)
  go_wp2_with fail
  go_ret
  exact ⟨by rw [HF.out]; rfl, HB0.out⟩
 go_wp2_with fail
 refine (HA.out _ HB0.out).mono ?_
 obtain ⟨t4, ht4⟩ : ∃ b, b = ruleF ⟨o1, g1, m1, n1, d1, ks1, s1⟩ := ⟨_, rfl⟩
 rw [← ht4]
 have Ht4 := Lib.hid ht4
 clear ht4
 rintro e w2 ⟨rfl, hb2⟩
 have HX2 := Lib.hid (HX0.out.step hb2)
 have HB2 := Lib.hid (HB0.out.trans (hb2.mono HB0.out.size))
 clear hb2
 obtain ⟨x0, x1, x2⟩ := HX2.out
 have p10 := x0 10 _ rfl
 have p11 := x0 11 _ rfl
 have p12 := x0 12 _ rfl
 have p13 := x0 13 _ rfl
 have p14 := x0 14 _ rfl
 have p15 := x0 15 _ rfl
 clear x0
 cases t4
 ·have HF : Hid (E = false) := Lib.hid (by rw [HE.out, ← Ht4.out]; simp)
  go_wp2_with fail
  go_ret
  exact ⟨by rw [HF.out]; rfl, HB2.out⟩
 go_wp2_with fail
 refine (HD.out _ HB2.out).mono ?_
 obtain ⟨t5, ht5⟩ : ∃ b, b = ruleF ⟨o2, g2, m2, n2, d2, ks2, s2⟩ := ⟨_, rfl⟩
 rw [← ht5]
 have Ht5 := Lib.hid ht5
 clear ht5
 rintro e w3 ⟨rfl, hb2⟩
 have HX3 := Lib.hid (HX2.out.step hb2)
 have HB3 := Lib.hid (HB2.out.trans (hb2.mono HB2.out.size))
 clear hb2
 have HF : Hid (E = t5) := Lib.hid (by rw [HE.out, ← Ht1.out, ← Ht2.out, ← Ht3.out, ← Ht4.out, ← Ht5.out]; simp)
 cases t5
 all_goals
  go_wp2_with fail
  go_ret
  exact ⟨by rw [HF.out]; rfl, HB3.out⟩
set_option maxRecDepth 100000 in
set_option maxHeartbeats 400000 in
theorem bkCourse1_any {P : Nat → Prop} (x : Cr) (b : Nat) (num : Int) (w : World) (h : Cr.Ok w P x) (hb : w.cell? ⟨b, 0, none⟩ = some (.int .i64 num)) (hk : KindsAt w) (hl : x.Few) :
 Calls Tryz.prog 144 #[x.v, .pointer (some ⟨b, 0, none⟩)] w fun e w' => e = .returned (.bool ((x.number == num) && goodC x)) ∧ Below w.heap.size w w' := by
 have hlt : b < w.heap.size := cell_in hb
 have HC := Lib.hid (fun W (h2 : Below w.heap.size w W) => bkValidCourse_any x W (h.step h2) (hk.step h2) hl)
 have HB0 : Hid (Below w.heap.size w (w.alloc (.cells x.enc.toArray 123))) := Lib.hid ((Below.refl _ _).alloc (Nat.le_refl _) _)
 clear h hk hl
 obtain ⟨x0, x1, x2, x3, ⟨o1, g1, m1, n1, d1, ks1, s1⟩, ⟨o2, g2, m2, n2, d2, ks2, s2⟩⟩ := x
 simp only [Cr.v, Cr.enc, RT.op, RT.course, RT.nm, RT.n, RT.d, RT.s] at HC HB0 ⊢
 cases hn : x1 == num
 ·go_enter Tryz.func144, Tryz.ntmps144
  go_wp2_with fail
  go_ret
  exact ⟨rfl, HB0.out⟩
 ·go_enter Tryz.func144, Tryz.ntmps144
  go_wp2_with fail
  refine (HC.out _ HB0.out).mono ?_
  rintro e w1 ⟨rfl, hb1⟩
  have HB1 := Lib.hid (HB0.out.trans (hb1.mono HB0.out.size))
  clear hb1
  go_wp2_with fail
  go_ret
  exact ⟨by rw [Bool.true_and]; rfl, HB1.out⟩
end Go.Proofs.YtalmbigebjbaoaaGreatDoor
namespace Go.Proofs.YtalmbigebjbaoaaGreatDoor
open Go.RowKit Go.Shelf
set_option linter.unusedSimpArgs false
set_option linter.unusedVariables false
theorem sorted_ext : ∀ (l m : List Int), l.Pairwise (· < ·) → m.Pairwise (· < ·) → (∀ x, x ∈ l ↔ x ∈ m) → l = m
 | [], [], _, _, _ => rfl
 | [], y :: m, _, _, h => by have := (h y).2 (List.mem_cons_self ..); simp at this
 | x :: l, [], _, _, h => by have := (h x).1 (List.mem_cons_self ..); simp at this
 | x :: l, y :: m, hl, hm, h => by
   have hx := List.pairwise_cons.1 hl
   have hy := List.pairwise_cons.1 hm
   have e : x = y := by
    have h1 := (h x).1 (List.mem_cons_self ..)
    have h2 := (h y).2 (List.mem_cons_self ..)
    rcases List.mem_cons.1 h1 with h1 | h1
    ·exact h1
    rcases List.mem_cons.1 h2 with h2 | h2
    ·exact h2.symm
    have := hx.1 _ h2
    have := hy.1 _ h1
    omega
   subst e
   congr 1
   refine sorted_ext l m hx.2 hy.2 (fun z => ⟨fun hz => ?_, fun hz => ?_⟩)
   ·rcases List.mem_cons.1 ((h z).1 (List.mem_cons_of_mem _ hz)) with rfl | h1
    ·have := hx.1 _ hz; omega
    ·exact h1
   ·rcases List.mem_cons.1 ((h z).2 (List.mem_cons_of_mem _ hz)) with rfl | h1
    ·have := hy.1 _ hz; omega
    ·exact h1
theorem nodup_len {α : Type} [DecidableEq α] : ∀ (l m : List α), l.Nodup → (∀ x ∈ l, x ∈ m) → l.length ≤ m.length
 | [], m, _, _ => Nat.zero_le _
 | x :: l, m, h, hs => by
   have hn := List.nodup_cons.1 h
   have hx : x ∈ m := hs x (List.mem_cons_self ..)
   have := nodup_len l (m.erase x) hn.2 (fun y hy => (List.mem_erase_of_ne (fun e => hn.1 (by subst e; exact hy))).2 (hs y (List.mem_cons_of_mem _ hy)))
   rw [List.length_erase_of_mem hx] at this
   have := List.length_pos_of_mem hx
   simp only [List.length_cons]
   omega
def setL (xs : List Int) : List Int := ((List.range 4096).map (fun n : Nat => (n : Int))).filter (fun n => xs.contains n)
theorem setL_sorted (xs : List Int) : (setL xs).Pairwise (· < ·) := by
 refine List.Pairwise.filter _ ?_
 rw [List.pairwise_map]
 exact List.pairwise_lt_range.imp (fun h => by omega)
theorem setL_mem (xs : List Int) (x : Int) : x ∈ setL xs ↔ (x ∈ xs ∧ 0 ≤ x ∧ x ≤ 4095) := by
 unfold setL
 simp only [List.mem_filter, List.mem_map, List.mem_range, List.contains_iff_mem]
 constructor
 ·rintro ⟨⟨n, hn, rfl⟩, h⟩; exact ⟨h, by omega, by omega⟩
 ·rintro ⟨h, h0, h1⟩; exact ⟨⟨x.toNat, by omega, by omega⟩, h⟩
def isNum (f : Fc) : Bool := (f.kind == 1) && ((f.obj == 0) && inB f.subj 0 4095)
def numStep (l : List Int) (f : Fc) : List Int := if isNum f && !l.contains f.subj then l ++ [f.subj] else l
def numsGo (many : Int) : List Fc → List Int → List Int
 | [], l => l
 | f :: t, l => if (l.length : Int) < many then numsGo many t (numStep l f) else l
theorem numsGo_drop (many : Int) (fs : List Fc) (k : Nat) (f : Fc) (l : List Int) (h : fs[k]? = some f) : numsGo many (fs.drop k) l = if (l.length : Int) < many then numsGo many (fs.drop (k + 1)) (numStep l f) else l := by
 have hl := (List.getElem?_eq_some_iff.1 h).1
 rw [List.drop_eq_getElem_cons hl, (List.getElem?_eq_some_iff.1 h).2]
 rfl
def sortI (l : List Int) : List Int := l.mergeSort fun x y => decide (x ≤ y)
theorem sortI_mem (l : List Int) (x : Int) : x ∈ sortI l ↔ x ∈ l := (List.mergeSort_perm l _).mem_iff
theorem sortI_len (l : List Int) : (sortI l).length = l.length := (List.mergeSort_perm l _).length_eq
theorem sortI_sorted (l : List Int) : (sortI l).Pairwise (· ≤ ·) := by
 have := List.pairwise_mergeSort (le := fun x y : Int => decide (x ≤ y)) (fun a b c h1 h2 => by simp at *; omega) (fun a b => by simp; omega) l
 exact this.imp (fun h => by simpa using h)
theorem numStep_in {l : List Int} {f : Fc} (h : ∀ x ∈ l, 0 ≤ x ∧ x ≤ 4095) : ∀ x ∈ numStep l f, 0 ≤ x ∧ x ≤ 4095 := by
 unfold numStep
 split
 ·rename_i hc
  intro x hx
  rcases List.mem_append.1 hx with hx | hx
  ·exact h x hx
  ·simp only [List.mem_singleton] at hx
   subst hx
   simp only [isNum, inB, Bool.and_eq_true, decide_eq_true_eq] at hc
   omega
 ·exact h
theorem numsGo_in {many : Int} : ∀ (fs : List Fc) (l : List Int), (∀ x ∈ l, 0 ≤ x ∧ x ≤ 4095) → ∀ x ∈ numsGo many fs l, 0 ≤ x ∧ x ≤ 4095
 | [], l, h => h
 | f :: t, l, h => by
   unfold numsGo
   split
   ·exact numsGo_in t _ (numStep_in h)
   ·exact h
theorem numStep_len (l : List Int) (f : Fc) : (numStep l f).length ≤ l.length + 1 := by unfold numStep; split <;> simp
theorem numsGo_len {many : Int} : ∀ (fs : List Fc) (l : List Int), (numsGo many fs l).length ≤ l.length + fs.length
 | [], l => by simp [numsGo]
 | f :: t, l => by
   unfold numsGo
   split
   ·have := numsGo_len (many := many) t (numStep l f)
    have := numStep_len l f
    simp only [List.length_cons]; omega
   ·simp
def eqStep (same : Int → Int → Bool) (x : Int) (l : List Int) (c : Int) : List Int := if !l.contains c && same x c then l ++ [c] else l
def eqIn (same : Int → Int → Bool) (x : Int) (cs : List Int) (l : List Int) : List Int := cs.foldl (eqStep same x) l
def eqGo (same : Int → Int → Bool) (ns : List Int) : Nat → Nat → List Int → List Int
 | 0, _, l => l
 | n + 1, i, l => match l[i]? with
   | none => l
   | some x => eqGo same ns n (i + 1) (eqIn same x ns l)
def eqL (same : Int → Int → Bool) (ns : List Int) (c : Int) : List Int := eqGo same ns (ns.length + 1) 0 [c]
structure EqOk (ns : List Int) (c : Int) (l : List Int) : Prop where
 nd : l.Nodup
 sub : ∀ x ∈ l, x ∈ c :: ns
theorem EqOk.len {ns : List Int} {c : Int} {l : List Int} (h : EqOk ns c l) : l.length ≤ ns.length + 1 := nodup_len l (c :: ns) h.nd h.sub
theorem EqOk.step {ns : List Int} {c : Int} {l : List Int} (h : EqOk ns c l) (same : Int → Int → Bool) (x y : Int) (hy : y ∈ ns) : EqOk ns c (eqStep same x l y) := by
 unfold eqStep
 split
 ·rename_i hc
  simp only [Bool.and_eq_true, Bool.not_eq_true', List.contains_eq_mem, decide_eq_false_iff_not] at hc
  refine ⟨List.nodup_append.2 ⟨h.nd, by simp, fun a ha b hb => ?_⟩, fun z hz => ?_⟩
  ·simp only [List.mem_singleton] at hb
   subst hb
   exact fun e => hc.1 (e ▸ ha)
  ·rcases List.mem_append.1 hz with hz | hz
   ·exact h.sub z hz
   ·simp only [List.mem_singleton] at hz
    subst hz
    exact List.mem_cons_of_mem _ hy
 ·exact h
theorem eqStep_grow (same : Int → Int → Bool) (x y : Int) (l : List Int) : ∃ t, eqStep same x l y = l ++ t := by
 unfold eqStep
 split
 ·exact ⟨_, rfl⟩
 ·exact ⟨[], by simp⟩
theorem EqOk.inner {ns : List Int} {c : Int} (same : Int → Int → Bool) (x : Int) : ∀ (cs : List Int) {l : List Int}, (∀ y ∈ cs, y ∈ ns) → EqOk ns c l → EqOk ns c (eqIn same x cs l)
 | [], _, _, h => h
 | y :: cs, l, hs, h => EqOk.inner same x cs (l := eqStep same x l y) (fun z hz => hs z (List.mem_cons_of_mem _ hz)) (h.step same x y (hs y (List.mem_cons_self ..)))
theorem EqOk.go {ns : List Int} {c : Int} (same : Int → Int → Bool) : ∀ (n i : Nat) (l : List Int), EqOk ns c l → EqOk ns c (eqGo same ns n i l)
 | 0, _, _, h => h
 | n + 1, i, l, h => by
   unfold eqGo
   split
   ·exact h
   ·exact EqOk.go same n (i + 1) _ (h.inner same _ ns (fun _ h => h))
theorem EqOk.start (ns : List Int) (c : Int) : EqOk ns c [c] := ⟨by simp, by simp⟩
theorem eqL_ok (same : Int → Int → Bool) (ns : List Int) (c : Int) : EqOk ns c (eqL same ns c) := EqOk.go same _ _ _ (EqOk.start ns c)
theorem eqIn_take (same : Int → Int → Bool) (x : Int) (cs : List Int) (k : Nat) (y : Int) (l : List Int) (h : cs[k]? = some y) : eqIn same x (cs.take (k + 1)) l = eqStep same x (eqIn same x (cs.take k) l) y := by
 have hl := (List.getElem?_eq_some_iff.1 h).1
 rw [List.take_succ_eq_append_getElem hl, (List.getElem?_eq_some_iff.1 h).2]
 simp [eqIn, List.foldl_append]
theorem eqGo_next (same : Int → Int → Bool) (ns : List Int) (i : Nat) (l : List Int) (x : Int) (hx : l[i]? = some x) (hl : l.length ≤ ns.length + 1) :
 eqGo same ns (ns.length + 1 - i) i l = eqGo same ns (ns.length + 1 - (i + 1)) (i + 1) (eqIn same x ns l) := by
 have hi := (List.getElem?_eq_some_iff.1 hx).1
 obtain ⟨n, hn⟩ : ∃ n, ns.length + 1 - i = n + 1 := ⟨ns.length - i, by omega⟩
 rw [hn, show ns.length + 1 - (i + 1) = n by omega]
 show (match l[i]? with | none => l | some x => eqGo same ns n (i + 1) (eqIn same x ns l)) = _
 rw [hx]
theorem eqGo_end (same : Int → Int → Bool) (ns : List Int) (n : Nat) (l : List Int) : eqGo same ns n l.length l = l := by
 cases n with
 | zero => rfl
 | succ n => unfold eqGo; simp
def numsF (fs : List Fc) (known : Int) : List Int := sortI (numsGo (atF fs ⟨12, 0, 0⟩ 0 known).1 fs [])
theorem numsF_in (fs : List Fc) (known : Int) : ∀ x ∈ numsF fs known, 0 ≤ x ∧ x ≤ 4095 := fun x hx => numsGo_in fs [] (by simp) x ((sortI_mem _ x).1 hx)
theorem numsF_len (fs : List Fc) (known : Int) : (numsF fs known).length ≤ fs.length := by
 unfold numsF
 rw [sortI_len]
 have := numsGo_len (many := (atF fs ⟨12, 0, 0⟩ 0 known).1) fs []
 simpa using this
def sameB (fs : List Fc) (term known x c : Int) : Bool := decide (atF fs ⟨2, min x c, max x c⟩ term known = (1, true))
def eqF (fs : List Fc) (c term known : Int) : List Int :=
 if inB c 0 4095 && inB term 0 1023 then sortI (eqL (sameB fs term known) (numsF fs known) c) else [c]
theorem eqF_len (fs : List Fc) (c term known : Int) : (eqF fs c term known).length ≤ fs.length + 1 := by
 unfold eqF
 split
 ·rw [sortI_len]
  exact Nat.le_trans (eqL_ok _ _ _).len (by have := numsF_len fs known; omega)
 ·simp
theorem eqF_in (fs : List Fc) (c term known : Int) (hc : inB c 0 4095 = true) : ∀ x ∈ eqF fs c term known, 0 ≤ x ∧ x ≤ 4095 := by
 have h0 : 0 ≤ c ∧ c ≤ 4095 := by simpa [inB] using hc
 intro x hx
 unfold eqF at hx
 split at hx
 ·rcases List.mem_cons.1 ((eqL_ok _ _ _).sub x ((sortI_mem _ x).1 hx)) with rfl | h
  ·exact h0
  ·exact numsF_in fs known x h
 ·simp only [List.mem_singleton] at hx
  subst hx
  exact h0
section
variable {P : Program}
theorem run_loadAt_row {w : World} {b : Nat} {ty t : TypeId} {cs : Array Value} {fr : Nat × Nat} {d : TypeDesc} (hg : w.heap[b]? = some (.cells cs t fr)) (hu : P.underlying ty = some d)
 (hd : (match d with | .struct _ | .array _ _ => true | _ => false) = true) (hi : (P.info? ty).map (·.size) = some cs.size) : (Instr.loadAt ty (.pointer (some ⟨b, 0, none⟩))).run P w = .ok (.agg cs) w := by
 simp only [Instr.loadAt, Instr.sureAddr, Sem.run_bind, Sem.run_pure, Result.andThen_ok, run_loadVar_row w b t ty cs fr d hg hu hd hi]
theorem run_storeAt_row {w : World} {b : Nat} {ty t : TypeId} {cs old : Array Value} (hg : w.heap[b]? = some (.cells old t (0, 0))) (hi : (P.info? ty).map (·.size) = some cs.size) (ho : old.size = cs.size)
 (h1 : cs.all (·.oneCell') = true) : (Instr.storeAt ty (.pointer (some ⟨b, 0, none⟩)) (.agg cs)).run P w = .ok () (w.setRow b cs) := by
 simp only [Instr.storeAt, Instr.sureAddr, Sem.run_bind, Sem.run_pure, Result.andThen_ok, run_storeVar_row w b t ty old cs hg hi ho h1]
theorem wpList_load_row {ops : Array Oper} {rest : List Oper} {op : Oper} {a : Act} {w : World} {Q : Exit → Act → World → Prop} (hgd : op.guard = none) (ty : TypeId) (x : Operand) (ho : op.op = .load ty x)
 (b : Nat) (hx : a.eval x = .pointer (some ⟨b, 0, none⟩)) {t : TypeId} {cs : Array Value} {fr : Nat × Nat} {d : TypeDesc} (hg : w.heap[b]? = some (.cells cs t fr)) (hu : P.underlying ty = some d)
 (hd : (match d with | .struct _ | .array _ _ => true | _ => false) = true) (hi : (P.info? ty).map (·.size) = some cs.size)
 (h : wpList P ops Q rest (a.put op.dst (.agg cs)) w) : wpList P ops Q (op :: rest) a w :=
 wpList_plain hgd fun _ hK => by
  unfold Oper.wp execOp
  simp only [ho, hx, run_loadAt_row hg hu hd hi, Sem.run_bind, Sem.run_pure, Result.andThen_ok]
  exact hK _ _ h
theorem wpList_store_row {ops : Array Oper} {rest : List Oper} {op : Oper} {a : Act} {w : World} {Q : Exit → Act → World → Prop} (hgd : op.guard = none) (ty : TypeId) (x y : Operand) (ho : op.op = .store ty x y)
 (b : Nat) (hx : a.eval x = .pointer (some ⟨b, 0, none⟩)) {t : TypeId} {cs old : Array Value} (hy : a.eval y = .agg cs) (hg : w.heap[b]? = some (.cells old t (0, 0))) (hi : (P.info? ty).map (·.size) = some cs.size) (hs : old.size = cs.size)
 (h1 : cs.all (·.oneCell') = true) (h : wpList P ops Q rest (a.put op.dst undef) (w.setRow b cs)) : wpList P ops Q (op :: rest) a w :=
 wpList_plain hgd fun _ hK => by
  unfold Oper.wp execOp
  simp only [ho, hx, hy, run_storeAt_row hg hi hs h1, Sem.run_bind, Sem.run_pure, Result.andThen_ok]
  exact hK _ _ h
theorem loadVar_row_ {w : World} {b : Nat} {ty t : TypeId} {cs : Array Value} {fr : Nat × Nat} {d : TypeDesc} (hg : w.heap[b]? = some (.cells cs t fr)) (hu : P.underlying ty = some d)
 (hd : (match d with | .struct _ | .array _ _ => true | _ => false) = true) (hi : (P.info? ty).map (·.size) = some cs.size) : (loadVar ty ⟨b, 0, none⟩).run P w = .ok (.agg cs) w :=
 run_loadVar_row w b t ty cs fr d hg hu hd hi
end
theorem setRow_at {w : World} {g : Nat} {old cs : Array Value} {t : TypeId} {fr : Nat × Nat} (hg : w.heap[g]? = some (.cells old t fr)) : (w.setRow g cs).heap[g]? = some (.cells cs t fr) := setRow_heap w g old cs t fr hg
theorem setRow_far {w : World} {g k : Nat} {cs : Array Value} (h : k ≠ g) : (w.setRow g cs).heap[k]? = w.heap[k]? := setRow_other w g k cs h
theorem RdS.setRow {w : World} {base m : Nat} {s : Sl} (h : RdS w base m s) {g : Nat} {cs : Array Value} (ha : g < base) : RdS (w.setRow g cs) base m s := by
 obtain ⟨xs, h1, h2⟩ := h
 exact ⟨xs, h1.keep ⟨by simp, fun b hb _ => setRow_other _ _ _ _ (by omega)⟩, h2⟩
end Go.Proofs.YtalmbigebjbaoaaGreatDoor
