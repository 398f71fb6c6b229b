/- degree.eligible, degree.Eligible. -/
import Derived.Test.YtgimpbcdgfkdmaaAudA
import Derived.Test.YtgimpbcdgfkdmaaProM
import Derived.Test.YtgimpbcdgfkdmaaInts
import Derived.BigQuiet
namespace Go.Proofs.Ytgimpbcdgfkdmaa
open Go.RowKit Go.Shelf
set_option linter.unusedSimpArgs false
set_option linter.unusedVariables false

set_option maxRecDepth 100000 in
set_option maxHeartbeats 8000000 in
theorem dgEligible_any {P : Nat → Prop} (q : Rq) (nm : ByteArray) (ns f : Sl) (a : At) (w : World) (hf : SlR w P 1 intE f q.fr) (hl : q.fr.length ≤ 9223372036854775807) :
    Calls Try.prog 71 #[rqV q nm ns f, a.v] w fun e w' => e = .returned (.bool (elig q a)) ∧ Below w.heap.size w w' := by
  obtain ⟨A, n, c⟩ := f
  have hn := hf.1
  simp only at hn
  subst hn
  have HR := Lib.hid hf.reads
  clear hf
  obtain ⟨E, hE⟩ : ∃ E, E = elig q a := ⟨_, rfl⟩
  rw [← hE]
  unfold elig at hE
  unfold rqV At.v
  simp only
  obtain ⟨hm, hhm⟩ : ∃ b, b = q.home := ⟨_, rfl⟩
  rw [← hhm] at hE ⊢
  clear hhm
  obtain ⟨b1, hb1⟩ : ∃ b, b = q.fr.any (fun c => c == a.course) := ⟨_, rfl⟩
  have H1 := Lib.hid hb1.symm
  rw [← hb1] at hE
  clear hb1
  cases b2 : decide (q.grade ≤ a.grade)
  · rw [b2] at hE
    simp only [Bool.false_and, Bool.and_false] at hE
    subst hE
    go_enter Try.func71, Try.ntmps71
    go_wp2_with fail
    go_ret
    exact ⟨rfl, ((Below.refl _ _).alloc (Nat.le_refl _) _).alloc (by simp) _⟩
  · cases hm <;> cases b4 : a.campus == 0
    all_goals
      rw [b2, b4] at hE
      simp only [Bool.false_and, Bool.true_and, Bool.and_true, Bool.and_false, Bool.not_false, Bool.not_true, Bool.true_or, Bool.false_or] at hE
      subst hE
      go_enter Try.func71, Try.ntmps71
      go_wp2_with fail
      first
        | (go_ret
           exact ⟨rfl, ((Below.refl _ _).alloc (Nat.le_refl _) _).alloc (by simp) _⟩)
        | (refine (containsV_any (P := P) a.course q.fr A c _ (((HR.out.alloc (Nat.le_refl _) _).alloc (by simp) _).more (by simp; omega)) hl).mono ?_
           rw [H1.out]
           rintro e w2 ⟨rfl, hb2⟩
           have HBE : Hid (Below w.heap.size w w2) := Lib.hid ((((Below.refl _ _).alloc (Nat.le_refl _) _).alloc (by simp) _).trans (hb2.mono (by simp; omega)))
           clear hb2
           go_wp2_with fail
           go_ret
           exact ⟨rfl, HBE.out⟩)

def nE (n : Nat) : List Value := [.int .i64 n]
theorem nE_len (y : Nat) : (nE y).length = 1 := rfl
theorem nE_one (y : Nat) : ∀ u ∈ nE y, u.oneCell' = true := by intro u hu; simp [nE] at hu; subst hu; rfl
/-- the requirements for which an attempt may count: the first k of them -/
def eligTo (p : Pg) (a : At) (k : Nat) : List Nat := (List.range k).filter (fun k => elig (p.reqs.getD k default) a)
def eligL (p : Pg) (a : At) : List Nat := eligTo p a p.reqs.length
theorem eligTo_len (p : Pg) (a : At) (k : Nat) : (eligTo p a k).length ≤ k := by
  unfold eligTo
  exact Nat.le_trans (List.length_filter_le _ _) (by simp)
theorem eligTo_snoc (p : Pg) (a : At) (k : Nat) : eligTo p a (k + 1) = if elig (p.reqs.getD k default) a then eligTo p a k ++ [k] else eligTo p a k := by
  unfold eligTo
  rw [List.range_succ, List.filter_append]
  by_cases h : elig (p.reqs.getD k default) a = true
  · rw [if_pos h]; simp only [List.filter, h]
  · rw [if_neg h]; simp only [List.filter, Bool.not_eq_true _ ▸ h, List.append_nil]
theorem eligL_mem {p : Pg} {a : At} {k : Nat} : k ∈ eligL p a ↔ k < p.reqs.length ∧ elig (p.reqs.getD k default) a = true := by
  unfold eligL eligTo
  rw [List.mem_filter, List.mem_range]
theorem Kp.of_grown2 {P : Nat → Prop} {w w' : World} {row : Option Nat} (h : w.grownBy w' row) (hg : ∀ b, P b → some b ≠ row) : Kp P w w' := ⟨h.size, fun b hb hl => h.block b hl (hg b hb)⟩
theorem Owns.base' {α : Type} {w : World} {b b' sz : Nat} {e : TypeId} {en : α → List Value} {v : Value} {ys : List α} (h : Owns w b e sz en v ys) (hb : b' ≤ b) : Owns w b' e sz en v ys := by
  obtain ⟨h1, h2⟩ := h
  refine ⟨h1, ?_⟩
  rcases h2 with h | ⟨g, cap, cur, k1, k2, k3⟩
  · exact .inl h
  · exact .inr ⟨g, cap, cur, k1, Nat.le_trans hb k2, k3⟩
/-- between two rounds of Eligible -/
def EgI (w : World) (ba bp : Nat) (p : Pg) (s : Sl) (a : At) (k : Nat) (v : Value) (W : World) : Prop :=
  Bx W bp (pgC p s) ∧ Bx W ba [.int .i64 a.course, .int .i64 a.term, .int .i64 a.grade, .int .i64 a.campus, .int .i64 a.credits] ∧ Owns W (w.heap.size + 2) 3 1 nE v (eligTo p a k) ∧ Below w.heap.size w W ∧ w.heap.size + 2 ≤ W.heap.size

set_option maxRecDepth 100000 in
set_option maxHeartbeats 8000000 in
theorem Eligible_any {P : Nat → Prop} (p : Pg) (s : Sl) (a : At) (w : World) (hr : Rqs w P s p.reqs) (hlr : p.reqs.length ≤ 64) :
    Calls Try.prog 59 #[pgV p s, a.v] w fun e w' => (∃ v : Sl, e = .returned (.slice v.a v.n v.c) ∧ Owns w' w.heap.size 3 1 nE (.slice v.a v.n v.c) (eligL p a)) ∧ Below w.heap.size w w' := by
  have hn := hr.len
  have HR := Lib.hid hr
  obtain ⟨A, n, c⟩ := s
  simp only at hn
  subst hn
  clear hr
  unfold pgV At.v
  simp only
  obtain ⟨i0, hi0, hz0, hz1, hz2⟩ := info_parts Try.infoInt
  have HI0 := Lib.hid hi0
  clear hi0
  go_enter Try.func59, Try.ntmps59
  go_wp2_with fail
  obtain ⟨W0, hW0⟩ : ∃ X, X = (w.alloc (.cells #[.string p.nm, .int .i64 p.number, .int .i64 p.uses, .int .i64 p.earn, .int .i64 p.mean.num, .int .i64 p.mean.den, .slice A p.reqs.length c] 26)).alloc (.cells #[.int .i64 a.course, .int .i64 a.term, .int .i64 a.grade, .int .i64 a.campus, .int .i64 a.credits] 47) := ⟨_, rfl⟩
  have HE0 : Hid (EgI w (w.heap.size + 1) w.heap.size p ⟨A, p.reqs.length, c⟩ a 0 (.slice none 0 0) W0) := Lib.hid (by
    rw [hW0]
    exact ⟨(Bx.new w _ _).step ((Below.refl _ _).alloc (Nat.le_refl _) _), Bx.at_ _ _ _ _ (by simp), Owns.nil_ _ _ _ _ _, ((Below.refl _ _).alloc (Nat.le_refl _) _).alloc (by simp) _, by simp⟩)
  obtain ⟨ba, hba⟩ : ∃ x, x = w.heap.size + 1 := ⟨_, rfl⟩
  rw [← hW0]
  rw [← hba] at HE0 ⊢
  have hwb : w.heap.size + 2 = ba + 1 := by omega
  clear hW0 hba
  go_loopw [10, 4] (fun i v wr => ∃ k : Nat, k ≤ p.reqs.length ∧ i = .int .i64 k ∧ EgI w ba w.heap.size p ⟨A, p.reqs.length, c⟩ a k v wr) (fun i _ _ => p.reqs.length - (intOf i).toNat)
  case atStart => exact ⟨0, Nat.zero_le _, rfl, HE0.out⟩
  case round =>
    clear HE0
    obtain ⟨k, hk, rfl, hE⟩ := hrel
    have HE := Lib.hid hE
    clear hE
    by_cases hlt : k < p.reqs.length
    · obtain ⟨b, off, q, nm, ns, f, hAe, hb, hqk, hqf, c0, c1, c2, c3, c4, c5⟩ := (HR.out.step HE.out.2.2.2.1).at_ hlt
      simp only at hAe
      subst hAe
      have hfl := HR.out.frlen q (List.mem_of_getElem? hqk)
      have HQF := Lib.hid hqf
      have hqd : p.reqs.getD k default = q := getD_some hqk
      obtain ⟨E, hE⟩ : ∃ E, E = elig q a := ⟨_, rfl⟩
      have HS : Hid (eligTo p a (k + 1) = if E then eligTo p a k ++ [k] else eligTo p a k) := Lib.hid (by rw [eligTo_snoc, hqd, hE])
      have HEE := Lib.hid hE
      have hb6 : Below wr.heap.size wr (wr.alloc (.cells #[.string nm, .int .i64 q.credits, .int .i64 q.grade, .bool q.home, .slice ns.a ns.n ns.c, .slice f.a f.n f.c] 57)) := (Below.refl _ _).alloc (Nat.le_refl _) _
      have HB6 := Lib.hid hb6
      have hbx := HE.out.2.1
      have b0 := hbx.1 0 _ rfl
      have b1 := hbx.1 1 _ rfl
      have b2 := hbx.1 2 _ rfl
      have b3 := hbx.1 3 _ rfl
      have b4 := hbx.1 4 _ rfl
      have bz := hbx.2.2
      clear hqf hqk hqd hE hb6 hbx
      go_wp2_with fail
      refine (dgEligible_any (P := P) q nm ns f a _ (HQF.out.step HB6.out) hfl).mono ?_
      rw [← HEE.out]
      rintro e w1 ⟨rfl, hb1⟩
      have HB1 : Hid (Below wr.heap.size wr w1) := Lib.hid (HB6.out.trans (hb1.mono HB6.out.size))
      have HE1 : Hid (EgI w ba w.heap.size p ⟨some ⟨b, off, none⟩, p.reqs.length, c⟩ a k u4 w1) := Lib.hid (by
        obtain ⟨e1, e2, e3, e4, e5⟩ := HE.out
        exact ⟨e1.step HB1.out, e2.step HB1.out, e3.below HB1.out (Nat.le_refl _), e4.trans (HB1.out.mono e4.size), Nat.le_trans e5 HB1.out.size⟩)
      clear hb1 b0 b1 b2 b3 b4 bz c0 c1 c2 c3 c4 c5
      cases E
      · rw [if_neg (by decide)] at HS
        go_wp2_with fail
        go_roundw
        case rel => exact ⟨k + 1, by omega, by go_num, by obtain ⟨e1, e2, e3, e4, e5⟩ := HE1.out; exact ⟨e1, e2, by rw [HS.out]; exact e3, e4, e5⟩⟩
        case measure => simp [intOf]; omega
      · rw [if_pos rfl] at HS
        have hlk := eligTo_len p a k
        have HLK := Lib.hid hlk
        clear hlk
        go_wp2_with (at_builtin; refine stop_mk ?_)
        refine stop_out (wpList_append_reads (en := nE) (sz := 1) _ rfl _ _ _ rfl nE_len nE_one (w.heap.size + 2) 3 i0 _ 8 Try.underlying55 HI0.out hz0 hz1 hz2 rfl (by omega) _ (eligTo p a k) rfl (HE1.out.2.2.1.alloc _) (w1.heap.size + 1) (some ⟨w1.heap.size, 0, none⟩) 1 [k] rfl (reads_one w1 nE k _ _ rfl 1 w1.heap.size rfl) (fun h => by cases h) (by have := HLK.out; simp [maxLen]; omega) (by have := HLK.out; simp; omega) (by have := HE1.out.2.2.2.2; simp; omega) ?_)
        intro v2 w2 ho2 hg2 _ _
        obtain ⟨A2, c2, rfl, _, _⟩ := ho2.shape
        have HE2 : Hid (EgI w ba w.heap.size p ⟨some ⟨b, off, none⟩, p.reqs.length, c⟩ a (k + 1) (.slice A2 (eligTo p a k ++ [k]).length c2) w2) := Lib.hid (by
          obtain ⟨e1, e2, e3, e4, e5⟩ := HE1.out
          have hb : Below w1.heap.size w1 (w1.alloc (.cells #[.int .i64 k] 3)) := (Below.refl _ _).alloc (Nat.le_refl _) _
          have hr : ∀ g, u4.ownBlock = some g → w.heap.size + 2 ≤ g := e3.base_le
          have f1 := e1.step hb
          have f2 := e2.step hb
          refine ⟨?_, ?_, by rw [HS.out]; exact ho2, (e4.trans (hb.mono e4.size)).grown hg2 (by simp; omega) (fun q e => by have := hr q e; omega), by have := hg2.size; simp at this; omega⟩
          · exact f1.keep (P := fun x => x = w.heap.size) (Kp.of_grown2 hg2 (fun x hx e => by have := hr x e.symm; omega)) rfl
          · exact f2.keep (P := fun x => x = ba) (Kp.of_grown2 hg2 (fun x hx e => by have := hr x e.symm; omega)) rfl)
        clear ho2 hg2 HE1
        go_wp2_with fail
        go_roundw
        case rel => exact ⟨k + 1, by omega, by go_num, by have h := HE2.out; rw [List.length_append] at h; exact h⟩
        case measure => simp [intOf]; omega
    · obtain rfl : p.reqs.length = k := by omega
      obtain ⟨e1, e2, e3, e4, e5⟩ := HE.out
      obtain ⟨A2, c2, rfl, _, _⟩ := e3.shape
      have HSR : Hid (Owns wr w.heap.size 3 1 nE (.slice A2 (eligL p a).length c2) (eligL p a)) := Lib.hid (Owns.base' e3 (by omega))
      have HB := Lib.hid e4
      have HL : Hid ((eligTo p a p.reqs.length).length = (eligL p a).length) := Lib.hid rfl
      clear e1 e2 e3 e4 e5
      go_wp2_with fail
      go_ret
      exact ⟨⟨⟨A2, (eligL p a).length, c2⟩, rfl, HSR.out⟩, HB.out⟩
end Go.Proofs.Ytgimpbcdgfkdmaa
