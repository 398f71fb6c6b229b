/- eligible, total, asked and their references; Few. -/
import Derived.Test.YtgimpbcdgfkdmaaProC
namespace Go.Proofs.Ytgimpbcdgfkdmaa
open Go.RowKit Go.Shelf
set_option linter.unusedSimpArgs false
set_option linter.unusedVariables false

theorem maxLen_le {n : Nat} (h : n ≤ maxLen) : n ≤ 9223372036854775807 := h
theorem Rqs.frlen {w : World} {P : Nat → Prop} {s : Sl} {qs : List Rq} (h : Rqs w P s qs) : ∀ q ∈ qs, q.fr.length ≤ 9223372036854775807 := by
  intro q hq
  obtain ⟨i, hi, rfl⟩ := List.getElem_of_mem hq
  obtain ⟨hs, h1, h2, h3⟩ := h
  have hx : hs[i]? = some hs[i] := List.getElem?_eq_getElem (by omega)
  obtain ⟨_, _, _, k⟩ := h3 i _ _ hx (List.getElem?_eq_getElem hi)
  rw [← k.1]
  exact maxLen_le (Nat.le_trans k.2.1 k.2.2.1)
theorem Rqs.rlen {w : World} {P : Nat → Prop} {s : Sl} {qs : List Rq} (h : Rqs w P s qs) : qs.length ≤ 9223372036854775807 := by rw [← h.len]; exact maxLen_le h.max
theorem take_snoc_of {α : Type} {xs : List α} {k : Nat} {x : α} (h : xs[k]? = some x) : xs.take (k + 1) = xs.take k ++ [x] := by
  have hl := (List.getElem?_eq_some_iff.1 h).1
  rw [List.take_succ_eq_append_getElem hl, (List.getElem?_eq_some_iff.1 h).2]
/-- may an attempt count for a requirement? -/
def elig (q : Rq) (a : At) : Bool := q.fr.any (fun c => c == a.course) && (decide (q.grade ≤ a.grade) && (!q.home || a.campus == 0))
def totR : List Rq → Int
  | [] => 0
  | q :: l => q.credits + totR l
theorem totR_snoc (q : Rq) : ∀ l, totR (l ++ [q]) = totR l + q.credits
  | [] => by simp [totR]
  | y :: l => by simp only [List.cons_append, totR, totR_snoc q l]; omega
theorem totR_bd : ∀ l : List Rq, (∀ q ∈ l, 1 ≤ q.credits ∧ q.credits ≤ 10000) → 0 ≤ totR l ∧ totR l ≤ 10000 * (l.length : Int)
  | [], _ => by simp [totR]
  | x :: l, h => by
    obtain ⟨h1, h2⟩ := totR_bd l (fun y hy => h y (List.mem_cons_of_mem _ hy))
    have := h x (List.mem_cons_self ..)
    simp only [totR, List.length_cons]
    omega
theorem good_credits {p : Pg} (h : goodP p = true) : (∀ q ∈ p.reqs, 1 ≤ q.credits ∧ q.credits ≤ 10000) ∧ p.reqs.length ≤ 64 ∧ 1 ≤ p.uses ∧ p.uses ≤ 4 := by
  obtain ⟨_, h2, _, _, _, h6, h7⟩ := (goodP_iff p).1 h
  refine ⟨fun q hq => ?_, h6, h2.1, h2.2⟩
  have := List.any_eq_false.1 h7 q hq
  exact ((goodQ_iff q).1 (by simpa using this)).1
/-- the errors about a programme and attempts -/
def askedE (p : Pg) (l : List At) : Int := if checkP p = 0 then (sumsA l).2.2 else checkP p

set_option maxHeartbeats 2000000 in
theorem indexV_any {P : Nat → Prop} (v : Int) (xs : List Int) (A : Option Addr) (c : Nat) (w : World) (hx : Reads w w.heap.size A 1 intE xs) (hl : xs.length ≤ 9223372036854775807) :
    Calls Try.prog 67 #[.slice A xs.length c, .int .i64 v] w fun e w' => (∃ m : Int, e = .returned (.int .i64 m) ∧ decide (0 ≤ m) = xs.any (fun c => c == v)) ∧ Below w.heap.size w w' := by
  have HX := Lib.hid hx
  clear hx
  go_enter Try.func67, Try.ntmps67
  go_wp2_with fail
  go_loopw [8] (fun i wr => ∃ k : Nat, k ≤ xs.length ∧ i = .int .i64 k ∧ (∀ j (h : j < xs.length), j < k → (fun c => c == v) xs[j] = false) ∧ Below w.heap.size w wr) (fun i _ => xs.length - (intOf i).toNat)
  case atStart => exact ⟨0, Nat.zero_le _, rfl, fun _ _ h => absurd h (by omega), Below.refl _ _⟩
  case round =>
    obtain ⟨k, hk, rfl, hno, hB⟩ := hrel
    have HNO := Lib.hid hno
    clear hno
    by_cases hlt : k < xs.length
    · obtain ⟨bb, off, x, rfl, hbl, hxk, hc⟩ := (HX.out.below hB).at_ hlt
      have c0 := hc 0 _ rfl
      simp only [Nat.add_zero, Nat.mul_one] at c0
      have HXK := Lib.hid hxk
      have HB := Lib.hid hB
      have hbw : bb < wr.heap.size := by have := hB.size; omega
      clear hc hxk hB
      cases e : x == v
      · have HQ : Hid ((fun c => c == v) x = false) := Lib.hid e
        have e2 : (v == x) = false := by simp at e ⊢; exact fun h => e h.symm
        go_wp2_with fail
        go_roundw
        case rel => exact ⟨k + 1, by omega, by go_num, step_no (p := fun c => c == v) HNO.out HXK.out HQ.out, HB.out⟩
        case measure => simp [intOf]; omega
      · have HA : Hid (xs.any (fun c => c == v) = true) := Lib.hid (any_true HXK.out e)
        have e2 : (v == x) = true := by simp at e ⊢; exact e.symm
        go_wp2_with fail
        go_ret
        exact ⟨⟨_, rfl, by rw [HA.out]; simp⟩, HB.out⟩
    · obtain rfl : k = xs.length := by omega
      have HA : Hid (xs.any (fun c => c == v) = false) := Lib.hid (any_false (fun j hj => HNO.out j hj hj))
      go_wp2_with fail
      go_ret
      exact ⟨⟨_, rfl, by rw [HA.out]; decide⟩, hB⟩
theorem containsV_any {P : Nat → Prop} (v : Int) (xs : List Int) (A : Option Addr) (c : Nat) (w : World) (hx : Reads w w.heap.size A 1 intE xs) (hl : xs.length ≤ 9223372036854775807) :
    Calls Try.prog 47 #[.slice A xs.length c, .int .i64 v] w fun e w' => e = .returned (.bool (xs.any (fun c => c == v))) ∧ Below w.heap.size w w' := by
  go_enter Try.func47, Try.ntmps47
  go_wp2_with fail
  refine (indexV_any (P := P) v xs A c _ hx hl).mono ?_
  rintro e w1 ⟨⟨m, rfl, hm⟩, hb1⟩
  have HM := Lib.hid hm
  clear hm
  go_wp2_with fail
  go_ret
  exact ⟨ret_bool HM.out, hb1⟩

set_option maxHeartbeats 4000000 in
theorem eligible_any {P : Nat → Prop} (q : Rq) (nm : ByteArray) (ns f : Sl) (a : At) (w : World) (hf : SlR w P 1 intE f q.fr) (hl : q.fr.length ≤ 9223372036854775807) :
    Calls Try.prog 31 #[rqV q nm ns f, a.v] w fun e w' => e = .returned (.bool (elig q a)) ∧ Below w.heap.size w w' := by
  obtain ⟨A, n, c⟩ := f
  have hn := hf.1
  simp only at hn
  subst hn
  have HR := Lib.hid hf.reads
  clear hf
  obtain ⟨E, hE⟩ : ∃ E, E = elig q a := ⟨_, rfl⟩
  rw [← hE]
  unfold elig at hE
  unfold rqV At.v
  simp only
  obtain ⟨hm, hhm⟩ : ∃ b, b = q.home := ⟨_, rfl⟩
  rw [← hhm] at hE ⊢
  clear hhm
  obtain ⟨b1, hb1⟩ : ∃ b, b = q.fr.any (fun c => c == a.course) := ⟨_, rfl⟩
  have H1 := Lib.hid hb1.symm
  rw [← hb1] at hE
  clear hb1
  cases b1 <;> cases b2 : decide (q.grade ≤ a.grade) <;> cases hm <;> cases b4 : a.campus == 0
  all_goals
    rw [b2, b4] at hE
    simp only [Bool.false_and, Bool.true_and, Bool.not_false, Bool.not_true, Bool.true_or, Bool.false_or] at hE
    subst hE
    go_enter Try.func31, Try.ntmps31
    go_wp2_with fail
    refine (containsV_any (P := P) a.course q.fr A c _ (((HR.out.alloc (Nat.le_refl _) _).alloc (by simp) _).more (by simp; omega)) hl).mono ?_
    rw [H1.out]
    rintro e w2 ⟨rfl, hb2⟩
    have hbx := (Bx.at_ (w.alloc (.cells #[.string nm, .int .i64 q.credits, .int .i64 q.grade, .bool _, .slice ns.a ns.n ns.c, .slice A q.fr.length c] 57)) [.int .i64 a.course, .int .i64 a.term, .int .i64 a.grade, .int .i64 a.campus, .int .i64 a.credits] 47 (w.heap.size + 1) (by simp)).step hb2
    have hby := ((Bx.new w [.string nm, .int .i64 q.credits, .int .i64 q.grade, .bool _, .slice ns.a ns.n ns.c, .slice A q.fr.length c] 57).step ((Below.refl _ _).alloc (Nat.le_refl _) _)).step hb2
    have hbe : Below w.heap.size w w2 := (((Below.refl _ _).alloc (Nat.le_refl _) _).alloc (by simp) _).trans (hb2.mono (by simp; omega))
    have x2 := hbx.1 2 _ rfl
    have x3 := hbx.1 3 _ rfl
    have y2 := hby.1 2 _ rfl
    have y3 := hby.1 3 _ rfl
    have zx := hbx.2.2
    have zy := hby.2.2
    have HBE := Lib.hid hbe
    clear hbx hby hbe hb2
    go_wp2_with fail
    go_ret
    exact ⟨rfl, HBE.out⟩

set_option maxHeartbeats 4000000 in
theorem Religible_any {P : Nat → Prop} (q : Rq) (nm : ByteArray) (ns f : Sl) (a : At) (w : World) (hf : SlR w P 1 intE f q.fr) (hl : q.fr.length ≤ 9223372036854775807) :
    Calls Try.prog 30 #[rqV q nm ns f, a.v] w fun e w' => e = .returned (.bool (elig q a)) ∧ Below w.heap.size w w' := by
  obtain ⟨A, n, c⟩ := f
  have hn := hf.1
  simp only at hn
  subst hn
  have HR := Lib.hid hf.reads
  clear hf
  obtain ⟨E, hE⟩ : ∃ E, E = elig q a := ⟨_, rfl⟩
  rw [← hE]
  unfold elig at hE
  unfold rqV At.v
  simp only
  obtain ⟨hm, hhm⟩ : ∃ b, b = q.home := ⟨_, rfl⟩
  rw [← hhm] at hE ⊢
  clear hhm
  have HE := Lib.hid hE
  clear hE
  go_enter Try.func30, Try.ntmps30
  go_wp2_with fail
  have hbx := Bx.at_ (w.alloc (.cells #[.string nm, .int .i64 q.credits, .int .i64 q.grade, .bool hm, .slice ns.a ns.n ns.c, .slice A q.fr.length c] 57)) [.int .i64 a.course, .int .i64 a.term, .int .i64 a.grade, .int .i64 a.campus, .int .i64 a.credits] 47 (w.heap.size + 1) (by simp)
  have hby := (Bx.new w [.string nm, .int .i64 q.credits, .int .i64 q.grade, .bool hm, .slice ns.a ns.n ns.c, .slice A q.fr.length c] 57).step ((Below.refl _ _).alloc (Nat.le_refl _) (.cells #[.int .i64 a.course, .int .i64 a.term, .int .i64 a.grade, .int .i64 a.campus, .int .i64 a.credits] 47))
  have hbe : Below w.heap.size w ((w.alloc (.cells #[.string nm, .int .i64 q.credits, .int .i64 q.grade, .bool hm, .slice ns.a ns.n ns.c, .slice A q.fr.length c] 57)).alloc (.cells #[.int .i64 a.course, .int .i64 a.term, .int .i64 a.grade, .int .i64 a.campus, .int .i64 a.credits] 47)) := (((Below.refl _ _).alloc (Nat.le_refl _) _).alloc (by simp) _)
  obtain ⟨w2, hw2⟩ : ∃ X, X = (w.alloc (.cells #[.string nm, .int .i64 q.credits, .int .i64 q.grade, .bool hm, .slice ns.a ns.n ns.c, .slice A q.fr.length c] 57)).alloc (.cells #[.int .i64 a.course, .int .i64 a.term, .int .i64 a.grade, .int .i64 a.campus, .int .i64 a.credits] 47) := ⟨_, rfl⟩
  rw [← hw2] at hbx hby hbe ⊢
  clear hw2
  have HBX := Lib.hid hbx
  have HBY := Lib.hid hby
  have HBE := Lib.hid hbe
  have HR2 := Lib.hid ((HR.out.below hbe).more hbe.size)
  clear hbx hby hbe
  go_loopw [5] (fun i wr => ∃ k : Nat, k ≤ q.fr.length ∧ i = .int .i64 k ∧ (∀ j (h : j < q.fr.length), j < k → (fun c => c == a.course) q.fr[j] = false) ∧ Below w2.heap.size w2 wr) (fun i _ => q.fr.length - (intOf i).toNat)
  case atStart => exact ⟨0, Nat.zero_le _, rfl, fun _ _ h => absurd h (by omega), Below.refl _ _⟩
  case round =>
    obtain ⟨k, hk, rfl, hno, hB⟩ := hrel
    have HNO := Lib.hid hno
    clear hno
    have hbx := HBX.out.step hB
    have hby := HBY.out.step hB
    have x0 := hbx.1 0 _ rfl
    have x2 := hbx.1 2 _ rfl
    have x3 := hbx.1 3 _ rfl
    have y2 := hby.1 2 _ rfl
    have y3 := hby.1 3 _ rfl
    have y5 := hby.1 5 _ rfl
    have zx := hbx.2.2
    have zy := hby.2.2
    clear hbx hby
    by_cases hlt : k < q.fr.length
    · obtain ⟨bb, off, x, rfl, hbl, hxk, hc⟩ := (HR2.out.below hB).at_ hlt
      have c0 := hc 0 _ rfl
      simp only [Nat.add_zero, Nat.mul_one] at c0
      have HXK := Lib.hid hxk
      have hbw : bb < wr.heap.size := by have := hB.size; omega
      have HB := Lib.hid hB
      have hlt2 : decide ((k : Int) < (q.fr.length : Int)) = true := by simpa using hlt
      clear hc hxk hB
      cases e : x == a.course
      · have HQ : Hid ((fun c => c == a.course) x = false) := Lib.hid e
        go_wp2_with fail
        go_quiet (fail)
        go_wp2_with fail
        go_roundw
        case rel => exact ⟨k + 1, by omega, by go_num, step_no (p := fun c => c == a.course) HNO.out HXK.out HQ.out, below_drewN HB.out _⟩
        case measure => simp [intOf]; omega
      · have HA : Hid (q.fr.any (fun c => c == a.course) = true) := Lib.hid (any_true HXK.out e)
        cases b2 : decide (q.grade ≤ a.grade) <;> cases hm <;> cases b4 : a.campus == 0
        all_goals
          have h5 := HE.out
          rw [HA.out, b2, b4] at h5
          simp only [Bool.false_and, Bool.true_and, Bool.not_false, Bool.not_true, Bool.true_or, Bool.false_or] at h5
          subst h5
          go_wp2_with fail
          go_quiet (fail)
          go_wp2_with fail
          go_ret
          exact ⟨rfl, HBE.out.trans ((below_drewN HB.out _).mono HBE.out.size)⟩
    · obtain rfl : k = q.fr.length := by omega
      have h5 : E = false := by rw [HE.out, any_false (fun j hj => HNO.out j hj hj)]; rfl
      subst h5
      have HB := Lib.hid hB
      clear hB
      go_wp2_with fail
      go_ret
      exact ⟨rfl, HBE.out.trans (HB.out.mono HBE.out.size)⟩

set_option maxHeartbeats 4000000 in
theorem total_any {P : Nat → Prop} (p : Pg) (s : Sl) (w : World) (hr : Rqs w P s p.reqs) (hg : goodP p = true) :
    Calls Try.prog 27 #[pgV p s] w fun e w' => e = .returned (.int .i64 (totR p.reqs)) ∧ Below w.heap.size w w' := by
  obtain ⟨hcr, hlen, _, _⟩ := good_credits hg
  have hn := hr.len
  have HR := Lib.hid hr
  have HCR := Lib.hid hcr
  obtain ⟨A, n, c⟩ := s
  simp only at hn
  subst hn
  clear hr hg hcr
  obtain ⟨E, hE⟩ : ∃ E, E = totR p.reqs := ⟨_, rfl⟩
  rw [← hE]
  have HE := Lib.hid hE
  clear hE
  unfold pgV
  simp only
  go_enter Try.func27, Try.ntmps27
  go_wp2_with fail
  have hbx := Bx.new w (pgC p ⟨A, p.reqs.length, c⟩) 26
  have hbe : Below w.heap.size w (w.alloc (.cells #[.string p.nm, .int .i64 p.number, .int .i64 p.uses, .int .i64 p.earn, .int .i64 p.mean.num, .int .i64 p.mean.den, .slice A p.reqs.length c] 26)) := (Below.refl _ _).alloc (Nat.le_refl _) _
  unfold pgC at hbx
  simp only at hbx
  obtain ⟨w2, hw2⟩ : ∃ X, X = w.alloc (.cells #[.string p.nm, .int .i64 p.number, .int .i64 p.uses, .int .i64 p.earn, .int .i64 p.mean.num, .int .i64 p.mean.den, .slice A p.reqs.length c] 26) := ⟨_, rfl⟩
  rw [← hw2] at hbx hbe ⊢
  clear hw2
  have HBX := Lib.hid hbx
  have HBE := Lib.hid hbe
  clear hbx hbe
  go_loopw [2, 8] (fun v0 v1 wr => ∃ k : Nat, k ≤ p.reqs.length ∧ v1 = .int .i64 k ∧ v0 = .int .i64 (totR (p.reqs.take k)) ∧ Below w2.heap.size w2 wr) (fun v0 v1 _ => p.reqs.length - (intOf v1).toNat)
  case atStart => exact ⟨0, Nat.zero_le _, rfl, rfl, Below.refl _ _⟩
  case round =>
    obtain ⟨k, hk, rfl, rfl, hB⟩ := hrel
    have hbx := HBX.out.step hB
    have p6 := hbx.1 6 _ rfl
    have pz := hbx.2.2
    have hBE2 : Below w.heap.size w wr := HBE.out.trans (hB.mono HBE.out.size)
    obtain ⟨ta, tb⟩ := totR_bd (p.reqs.take k) (fun q hq => HCR.out q (List.mem_of_mem_take hq))
    have tl : (p.reqs.take k).length ≤ k := List.length_take_le _ _
    obtain ⟨T, hT⟩ : ∃ T, T = totR (p.reqs.take k) := ⟨_, rfl⟩
    rw [← hT] at ta tb ⊢
    have htb : T ≤ 640000 := by omega
    have HT := Lib.hid hT
    clear hT tb tl
    by_cases hlt : k < p.reqs.length
    · obtain ⟨bb, off, q, nm, ns, f, ha, hbb, hxk, hq, c0, c1, c2, c3, c4, c5⟩ := (HR.out.step hBE2).at_ hlt
      simp only at ha
      subst ha
      have HB := Lib.hid hB
      obtain ⟨q1, q2⟩ := HCR.out q (List.mem_of_getElem? hxk)
      have HS : Hid (totR (p.reqs.take (k + 1)) = T + q.credits) := Lib.hid (by rw [take_snoc_of hxk, totR_snoc, HT.out])
      clear hxk hq hB hBE2 hbx
      go_wp2_with fail
      go_roundw
      case rel => exact ⟨k + 1, by omega, by go_num, by rw [HS.out], HB.out.trans (((Below.refl _ _).alloc (Nat.le_refl _) _).mono HB.out.size)⟩
      case measure => simp [intOf]; omega
    · obtain rfl : k = p.reqs.length := by omega
      have hTE : T = E := by rw [HT.out, HE.out, List.take_length]
      subst hTE
      have HB := Lib.hid hBE2
      clear hBE2 hB hbx
      go_wp2_with fail
      go_ret
      exact ⟨rfl, HB.out⟩

set_option maxHeartbeats 4000000 in
theorem Rtotal_any {P : Nat → Prop} (p : Pg) (s : Sl) (w : World) (hr : Rqs w P s p.reqs) (hg : goodP p = true) :
    Calls Try.prog 25 #[pgV p s] w fun e w' => e = .returned (.int .i64 (totR p.reqs)) ∧ Below w.heap.size w w' := by
  obtain ⟨hcr, hlen, _, _⟩ := good_credits hg
  have hn := hr.len
  have HR := Lib.hid hr
  have HCR := Lib.hid hcr
  obtain ⟨A, n, c⟩ := s
  simp only at hn
  subst hn
  clear hr hg hcr
  obtain ⟨E, hE⟩ : ∃ E, E = totR p.reqs := ⟨_, rfl⟩
  rw [← hE]
  have HE := Lib.hid hE
  clear hE
  unfold pgV
  simp only
  go_enter Try.func25, Try.ntmps25
  go_wp2_with fail
  have hbx := Bx.new w (pgC p ⟨A, p.reqs.length, c⟩) 26
  have hbe : Below w.heap.size w (w.alloc (.cells #[.string p.nm, .int .i64 p.number, .int .i64 p.uses, .int .i64 p.earn, .int .i64 p.mean.num, .int .i64 p.mean.den, .slice A p.reqs.length c] 26)) := (Below.refl _ _).alloc (Nat.le_refl _) _
  unfold pgC at hbx
  simp only at hbx
  obtain ⟨w2, hw2⟩ : ∃ X, X = w.alloc (.cells #[.string p.nm, .int .i64 p.number, .int .i64 p.uses, .int .i64 p.earn, .int .i64 p.mean.num, .int .i64 p.mean.den, .slice A p.reqs.length c] 26) := ⟨_, rfl⟩
  rw [← hw2] at hbx hbe ⊢
  clear hw2
  have HBX := Lib.hid hbx
  have HBE := Lib.hid hbe
  clear hbx hbe
  go_loopw [3, 4] (fun v0 v1 wr => ∃ k : Nat, k ≤ p.reqs.length ∧ v1 = .int .i64 k ∧ v0 = .int .i64 (totR (p.reqs.take k)) ∧ Below w2.heap.size w2 wr) (fun v0 v1 _ => p.reqs.length - (intOf v1).toNat)
  case atStart => exact ⟨0, Nat.zero_le _, rfl, rfl, Below.refl _ _⟩
  case round =>
    obtain ⟨k, hk, rfl, rfl, hB⟩ := hrel
    have hbx := HBX.out.step hB
    have p6 := hbx.1 6 _ rfl
    have pz := hbx.2.2
    have hBE2 : Below w.heap.size w wr := HBE.out.trans (hB.mono HBE.out.size)
    obtain ⟨ta, tb⟩ := totR_bd (p.reqs.take k) (fun q hq => HCR.out q (List.mem_of_mem_take hq))
    have tl : (p.reqs.take k).length ≤ k := List.length_take_le _ _
    obtain ⟨T, hT⟩ : ∃ T, T = totR (p.reqs.take k) := ⟨_, rfl⟩
    rw [← hT] at ta tb ⊢
    have htb : T ≤ 640000 := by omega
    have HT := Lib.hid hT
    clear hT tb tl
    by_cases hlt : k < p.reqs.length
    · obtain ⟨bb, off, q, nm, ns, f, ha, hbb, hxk, hq, c0, c1, c2, c3, c4, c5⟩ := (HR.out.step hBE2).at_ hlt
      simp only at ha
      subst ha
      have HB := Lib.hid hB
      obtain ⟨q1, q2⟩ := HCR.out q (List.mem_of_getElem? hxk)
      have HS : Hid (totR (p.reqs.take (k + 1)) = T + q.credits) := Lib.hid (by rw [take_snoc_of hxk, totR_snoc, HT.out])
      clear hxk hq hB hBE2 hbx
      go_wp2_with fail
      try (go_quiet (fail); go_wp2_with fail)
      go_roundw
      case rel => exact ⟨k + 1, by omega, by go_num, by rw [HS.out], (by first | exact HB.out | exact below_drewN HB.out _)⟩
      case measure => simp [intOf]; omega
    · obtain rfl : k = p.reqs.length := by omega
      have hTE : T = E := by rw [HT.out, HE.out, List.take_length]
      subst hTE
      have HB := Lib.hid hBE2
      clear hBE2 hB hbx
      go_wp2_with fail
      go_ret
      exact ⟨rfl, HB.out⟩

set_option maxHeartbeats 4000000 in
theorem asked_any {P : Nat → Prop} (p : Pg) (s : Sl) (l : List At) (A : Option Addr) (c : Nat) (w : World) (hr : Rqs w P s p.reqs) (hi : p.mean.i64) (hx : Reads w w.heap.size A 5 At.enc l) (hl : l.length ≤ 100000) :
    Calls Try.prog 26 #[pgV p s, .slice A l.length c] w fun e w' => e = .returned (.int .i64 (askedE p l)) ∧ Below w.heap.size w w' := by
  have HX := Lib.hid hx
  have hC := Lib.hid (fun W (h : Below w.heap.size w W) => dgCheck_any p s W (hr.step h) hi)
  have hS := Lib.hid (fun W h => Sums_any l A c W h hl)
  clear hx
  obtain ⟨E, hE⟩ : ∃ E, E = askedE p l := ⟨_, rfl⟩
  rw [← hE]
  obtain ⟨S1, S2, S3, hS3⟩ : ∃ a b c, sumsA l = (a, b, c) := ⟨_, _, _, rfl⟩
  rw [hS3] at hS
  unfold askedE at hE
  rw [hS3] at hE
  clear hS3
  obtain ⟨C, hCk⟩ : ∃ C, C = checkP p := ⟨_, rfl⟩
  rw [← hCk] at hC hE
  clear hCk
  unfold pgV at hC ⊢
  simp only at hE hS
  by_cases h0 : C = 0
  · rw [if_pos h0] at hE
    subst hE
    subst h0
    go_enter Try.func26, Try.ntmps26
    go_wp2_with fail
    refine (hC.out _ ((Below.refl _ _).alloc (Nat.le_refl _) _)).mono ?_
    rintro e w2 ⟨rfl, hb2⟩
    have HBE : Hid (Below w.heap.size w w2) := Lib.hid (((Below.refl _ _).alloc (Nat.le_refl _) _).trans (hb2.mono (by simp)))
    clear hb2
    go_wp2_with fail
    refine (hS.out _ ((HX.out.below HBE.out).more HBE.out.size)).mono ?_
    rintro e w3 ⟨rfl, hb3⟩
    go_wp2_with fail
    go_ret
    exact ⟨rfl, HBE.out.trans (hb3.mono HBE.out.size)⟩
  · rw [if_neg h0] at hE
    subst hE
    have e1 : (E == 0) = false := by simpa using h0
    have e2 : (E != 0) = true := by simpa using h0
    clear h0
    go_enter Try.func26, Try.ntmps26
    go_wp2_with fail
    refine (hC.out _ ((Below.refl _ _).alloc (Nat.le_refl _) _)).mono ?_
    rintro e w2 ⟨rfl, hb2⟩
    have HBE : Hid (Below w.heap.size w w2) := Lib.hid (((Below.refl _ _).alloc (Nat.le_refl _) _).trans (hb2.mono (by simp)))
    clear hb2
    go_wp2_with fail
    go_ret
    exact ⟨rfl, HBE.out⟩

set_option maxHeartbeats 4000000 in
theorem Rasked_any {P : Nat → Prop} (p : Pg) (s : Sl) (l : List At) (A : Option Addr) (c : Nat) (w : World) (hr : Rqs w P s p.reqs) (hi : p.mean.i64) (hx : Reads w w.heap.size A 5 At.enc l) (hl : l.length ≤ 100000) :
    Calls Try.prog 29 #[pgV p s, .slice A l.length c] w fun e w' => e = .returned (.int .i64 (askedE p l)) ∧ Below w.heap.size w w' := by
  have HX := Lib.hid hx
  have hC := Lib.hid (fun W (h : Below w.heap.size w W) => RdgCheck_any p s W (hr.step h) hi hr.frlen hr.rlen)
  have hS := Lib.hid (fun W h => RSums_any l A c W h hl)
  clear hx
  obtain ⟨E, hE⟩ : ∃ E, E = askedE p l := ⟨_, rfl⟩
  rw [← hE]
  obtain ⟨S1, S2, S3, hS3⟩ : ∃ a b c, sumsA l = (a, b, c) := ⟨_, _, _, rfl⟩
  rw [hS3] at hS
  unfold askedE at hE
  rw [hS3] at hE
  clear hS3
  obtain ⟨C, hCk⟩ : ∃ C, C = checkP p := ⟨_, rfl⟩
  rw [← hCk] at hC hE
  clear hCk
  unfold pgV at hC ⊢
  simp only at hE hS
  by_cases h0 : C = 0
  · rw [if_pos h0] at hE
    subst hE
    subst h0
    go_enter Try.func29, Try.ntmps29
    go_wp2_with fail
    refine (hC.out _ ((Below.refl _ _).alloc (Nat.le_refl _) _)).mono ?_
    rintro e w2 ⟨rfl, hb2⟩
    have HBE : Hid (Below w.heap.size w w2) := Lib.hid (((Below.refl _ _).alloc (Nat.le_refl _) _).trans (hb2.mono (by simp)))
    clear hb2
    go_wp2_with fail
    refine (hS.out _ ((HX.out.below HBE.out).more HBE.out.size)).mono ?_
    rintro e w3 ⟨rfl, hb3⟩
    go_wp2_with fail
    go_ret
    exact ⟨rfl, HBE.out.trans (hb3.mono HBE.out.size)⟩
  · rw [if_neg h0] at hE
    subst hE
    have e1 : (E == 0) = false := by simpa using h0
    have e2 : (E != 0) = true := by simpa using h0
    clear h0
    go_enter Try.func29, Try.ntmps29
    go_wp2_with fail
    refine (hC.out _ ((Below.refl _ _).alloc (Nat.le_refl _) _)).mono ?_
    rintro e w2 ⟨rfl, hb2⟩
    have HBE : Hid (Below w.heap.size w w2) := Lib.hid (((Below.refl _ _).alloc (Nat.le_refl _) _).trans (hb2.mono (by simp)))
    clear hb2
    go_wp2_with fail
    go_ret
    exact ⟨rfl, HBE.out⟩

def fewP (p : Pg) (l : List At) : Bool := decide (p.reqs.length ≤ 10) && (decide (l.length ≤ 12) && !(p.reqs.any (fun q => decide (20 < q.fr.length))))
set_option maxHeartbeats 4000000 in
theorem RProFew_any {P : Nat → Prop} (p : Pg) (s : Sl) (l : List At) (Al : Option Addr) (cl : Nat) (w : World) (hr : Rqs w P s p.reqs) :
    Calls Try.prog 12 #[pgV p s, .slice Al l.length cl] w fun e w' => e = .returned (.bool (fewP p l)) ∧ Below w.heap.size w w' := by
  have hn := hr.len
  have hrl := hr.rlen
  have HR := Lib.hid hr
  obtain ⟨A, n, c⟩ := s
  simp only at hn
  subst hn
  clear hr
  obtain ⟨E, hE⟩ : ∃ E, E = fewP p l := ⟨_, rfl⟩
  rw [← hE]
  unfold fewP at hE
  unfold pgV
  simp only
  cases b1 : decide ((10 : Int) < (p.reqs.length : Int))
  rotate_left
  · have e1 : decide (p.reqs.length ≤ 10) = false := by simp at b1 ⊢; omega
    rw [e1] at hE
    subst hE
    clear e1
    go_enter Try.func12, Try.ntmps12
    go_wp2_with fail
    go_ret
    exact ⟨rfl, by go_grown⟩
  have e1 : decide (p.reqs.length ≤ 10) = true := by simp at b1 ⊢; omega
  cases b2 : decide ((12 : Int) < (l.length : Int))
  rotate_left
  · have e2 : decide (l.length ≤ 12) = false := by simp at b2 ⊢; omega
    rw [e1, e2] at hE
    subst hE
    clear e1 e2
    go_enter Try.func12, Try.ntmps12
    go_wp2_with fail
    go_ret
    exact ⟨rfl, by go_grown⟩
  have e2 : decide (l.length ≤ 12) = true := by simp at b2 ⊢; omega
  rw [e1, e2] at hE
  simp only [Bool.true_and] at hE
  have HE := Lib.hid hE
  clear e1 e2 hE
  go_enter Try.func12, Try.ntmps12
  go_wp2_with fail
  have hbx := Bx.new w (pgC p ⟨A, p.reqs.length, c⟩) 26
  have hbe : Below w.heap.size w (w.alloc (.cells #[.string p.nm, .int .i64 p.number, .int .i64 p.uses, .int .i64 p.earn, .int .i64 p.mean.num, .int .i64 p.mean.den, .slice A p.reqs.length c] 26)) := (Below.refl _ _).alloc (Nat.le_refl _) _
  unfold pgC at hbx
  simp only at hbx
  obtain ⟨w2, hw2⟩ : ∃ X, X = w.alloc (.cells #[.string p.nm, .int .i64 p.number, .int .i64 p.uses, .int .i64 p.earn, .int .i64 p.mean.num, .int .i64 p.mean.den, .slice A p.reqs.length c] 26) := ⟨_, rfl⟩
  rw [← hw2] at hbx hbe ⊢
  clear hw2 b1
  have HBX := Lib.hid hbx
  have HBE := Lib.hid hbe
  clear hbx hbe
  go_loopw [5] (fun i wr => ∃ k : Nat, k ≤ p.reqs.length ∧ i = .int .i64 k ∧ (∀ j (h : j < p.reqs.length), j < k → decide (20 < p.reqs[j].fr.length) = false) ∧ Below w2.heap.size w2 wr) (fun i _ => p.reqs.length - (intOf i).toNat)
  case atStart => exact ⟨0, Nat.zero_le _, rfl, fun _ _ h => absurd h (by omega), Below.refl _ _⟩
  case round =>
    obtain ⟨k, hk, rfl, hno, hB⟩ := hrel
    have HNO := Lib.hid hno
    clear hno
    have hbx := HBX.out.step hB
    have p6 := hbx.1 6 _ rfl
    have pz := hbx.2.2
    have hBE2 : Below w.heap.size w wr := HBE.out.trans (hB.mono HBE.out.size)
    by_cases hlt : k < p.reqs.length
    · obtain ⟨bb, off, q, nm, ns, f, ha, hbb, hxk, hq, c0, c1, c2, c3, c4, c5⟩ := (HR.out.step hBE2).at_ hlt
      simp only at ha
      subst ha
      obtain ⟨Af, nf, cf⟩ := f
      have hfn := hq.1
      simp only at hfn c5
      subst hfn
      have HB := Lib.hid hB
      have HE2 := Lib.hid hBE2
      have HXK := Lib.hid hxk
      clear hxk hq hB hBE2 hbx
      cases b3 : decide ((20 : Int) < (q.fr.length : Int))
      · have HQ : Hid (decide (20 < q.fr.length) = false) := Lib.hid (by simp at b3 ⊢; omega)
        go_wp2_with fail
        go_roundw
        case rel => exact ⟨k + 1, by omega, by go_num, step_no (p := fun q => decide (20 < q.fr.length)) HNO.out HXK.out HQ.out, HB.out⟩
        case measure => simp [intOf]; omega
      · obtain rfl : E = false := by rw [HE.out, any_true HXK.out (by simp at b3 ⊢; omega)]; rfl
        go_wp2_with fail
        go_ret
        exact ⟨rfl, HE2.out⟩
    · obtain rfl : k = p.reqs.length := by omega
      obtain rfl : E = true := by rw [HE.out, any_false (fun j hj => HNO.out j hj hj)]; rfl
      have HE2 := Lib.hid hBE2
      clear hBE2 hB hbx
      go_wp2_with fail
      go_ret
      exact ⟨rfl, HE2.out⟩
end Go.Proofs.Ytgimpbcdgfkdmaa
