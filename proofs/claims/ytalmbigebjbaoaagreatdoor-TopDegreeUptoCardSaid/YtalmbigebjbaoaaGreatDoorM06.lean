/- TopDegree, what its proof leans on: the texts ProA, ProB, ProC. -/
import Derived.Test.YtalmbigebjbaoaaGreatDoorM05
import Derived.Test.YtalmbigebjbaoaaGreatDoorM04
import Derived.Test.YtalmbigebjbaoaaGreatDoorM02
namespace Go.Proofs.YtalmbigebjbaoaaGreatDoor
open Go.RowKit Go.Shelf
set_option linter.unusedSimpArgs false
set_option linter.unusedVariables false
def Bx (W : World) (b : Nat) (cs : List Value) : Prop := (∀ (i : Nat) (v : Value), cs[i]? = some v → W.cell? ⟨b, i, none⟩ = some v) ∧ (∀ i, W.frozen? ⟨b, i, none⟩ = false) ∧ b < W.heap.size
theorem Bx.step {W W' : World} {b : Nat} {cs : List Value} (h : Bx W b cs) (hb : Below W.heap.size W W') : Bx W' b cs :=
 ⟨fun i v e => (hb.cell (p := ⟨b, i, none⟩) h.2.2).trans (h.1 i v e), fun i => (hb.frozen (p := ⟨b, i, none⟩) h.2.2).trans (h.2.1 i), Nat.lt_of_lt_of_le h.2.2 hb.size⟩
theorem Bx.new (w : World) (cs : List Value) (t : TypeId) : Bx (w.alloc (.cells cs.toArray t)) w.heap.size cs :=
 ⟨fun i v e => by simp [go_sem]; exact e, fun i => by simp [go_sem], by simp⟩
theorem Bx.at_ (w : World) (cs : List Value) (t : TypeId) (g : Nat) (hg : g = w.heap.size) : Bx (w.alloc (.cells cs.toArray t)) g cs := by subst hg; exact Bx.new ..
structure Rq where
 credits : Int
 grade : Int
 home : Bool
 fr : List Int
 deriving DecidableEq
instance : Inhabited Rq := ⟨⟨0, 0, false, []⟩⟩
structure RqH where
 nm : ByteArray
 credits : Int
 grade : Int
 home : Bool
 names : Sl
 fr : Sl
instance : Inhabited RqH := ⟨⟨⟨#[]⟩, 0, 0, false, default, default⟩⟩
def RqH.enc (h : RqH) : List Value := [.string h.nm, .int .i64 h.credits, .int .i64 h.grade, .bool h.home, .slice h.names.a h.names.n h.names.c, .slice h.fr.a h.fr.n h.fr.c]
theorem RqH.enc_len (h : RqH) : h.enc.length = 6 := rfl
theorem RqH.enc_one (h : RqH) : ∀ u ∈ h.enc, u.oneCell' = true := by
 intro u hu
 simp [RqH.enc] at hu
 rcases hu with rfl | rfl | rfl | rfl | rfl | rfl <;> rfl
def Rqs (w : World) (P : Nat → Prop) (s : Sl) (qs : List Rq) : Prop :=
 ∃ hs : List RqH, SlR w P 6 RqH.enc s hs ∧ hs.length = qs.length ∧ ∀ (i : Nat) (h : RqH) (q : Rq), hs[i]? = some h → qs[i]? = some q → h.credits = q.credits ∧ h.grade = q.grade ∧ h.home = q.home ∧ SlR w P 1 intE h.fr q.fr
section
variable {w w' : World} {P Q : Nat → Prop} {s : Sl} {qs : List Rq}
theorem Rqs.keep (h : Rqs w P s qs) (hk : Kp P w w') : Rqs w' P s qs := by
 obtain ⟨hs, h1, h2, h3⟩ := h
 exact ⟨hs, h1.keep hk, h2, fun i a q e1 e2 => by obtain ⟨x, y, z, t⟩ := h3 i a q e1 e2; exact ⟨x, y, z, t.keep hk⟩⟩
theorem Rqs.step (h : Rqs w P s qs) (hb : Below w.heap.size w w') : Rqs w' P s qs := h.keep (Kp.of_below hb)
theorem Rqs.mono (h : Rqs w P s qs) (hq : ∀ b, P b → Q b) : Rqs w Q s qs := by
 obtain ⟨hs, h1, h2, h3⟩ := h
 exact ⟨hs, h1.mono hq, h2, fun i a q e1 e2 => by obtain ⟨x, y, z, t⟩ := h3 i a q e1 e2; exact ⟨x, y, z, t.mono hq⟩⟩
theorem Rqs.len (h : Rqs w P s qs) : s.n = qs.length := by obtain ⟨vs, h1, h2, _⟩ := h; rw [h1.1, h2]
theorem Rqs.max (h : Rqs w P s qs) : s.n ≤ maxLen := by obtain ⟨vs, h1, h2, _⟩ := h; exact Nat.le_trans h1.2.1 h1.2.2.1
theorem Rqs.at_ (h : Rqs w P s qs) {i : Nat} (hi : i < qs.length) : ∃ (b off : Nat) (q : Rq) (nm : ByteArray) (ns f : Sl), s.a = some ⟨b, off, none⟩ ∧ b < w.heap.size ∧ qs[i]? = some q ∧ SlR w P 1 intE f q.fr ∧
 w.cell? ⟨b, off + i * 6, none⟩ = some (.string nm) ∧ w.cell? ⟨b, off + i * 6 + 1, none⟩ = some (.int .i64 q.credits) ∧ w.cell? ⟨b, off + i * 6 + 2, none⟩ = some (.int .i64 q.grade) ∧ w.cell? ⟨b, off + i * 6 + 3, none⟩ = some (.bool q.home) ∧
 w.cell? ⟨b, off + i * 6 + 4, none⟩ = some (.slice ns.a ns.n ns.c) ∧ w.cell? ⟨b, off + i * 6 + 5, none⟩ = some (.slice f.a f.n f.c) := by
 obtain ⟨vs, h1, h2, h3⟩ := h
 obtain ⟨b, off, x, ha, hb, hx, hc⟩ := h1.reads.at_ (k := i) (by omega)
 obtain ⟨e1, e2, e3, e4⟩ := h3 i x _ hx (List.getElem?_eq_getElem hi)
 have c0 := hc 0 _ rfl
 have c1 := hc 1 _ rfl
 have c2 := hc 2 _ rfl
 have c3 := hc 3 _ rfl
 have c4 := hc 4 _ rfl
 have c5 := hc 5 _ rfl
 simp only [Nat.add_zero] at c0
 rw [e1] at c1
 rw [e2] at c2
 rw [e3] at c3
 exact ⟨b, off, qs[i], x.nm, x.names, x.fr, ha, hb, List.getElem?_eq_getElem hi, e4, c0, c1, c2, c3, c4, c5⟩
end
structure Pg where
 nm : ByteArray
 number : Int
 uses : Int
 earn : Int
 mean : Ra
 reqs : List Rq
def pgC (p : Pg) (s : Sl) : List Value := [.string p.nm, .int .i64 p.number, .int .i64 p.uses, .int .i64 p.earn, .int .i64 p.mean.num, .int .i64 p.mean.den, .slice s.a s.n s.c]
def pgV (p : Pg) (s : Sl) : Value := .agg #[.string p.nm, .int .i64 p.number, .int .i64 p.uses, .int .i64 p.earn, .int .i64 p.mean.num, .int .i64 p.mean.den, .slice s.a s.n s.c]
def rqV (q : Rq) (nm : ByteArray) (ns f : Sl) : Value := .agg #[.string nm, .int .i64 q.credits, .int .i64 q.grade, .bool q.home, .slice ns.a ns.n ns.c, .slice f.a f.n f.c]
def goodQ (q : Rq) : Bool := inB q.credits 1 10000 && (inB q.grade 0 12 && !(q.fr.any (fun c => !inB c 0 4095)))
def okR' (r : Ra) : Bool := decide (checkR r = 0)
def goodP (p : Pg) : Bool := inB p.number 0 255 && (inB p.uses 1 4 && (inB p.earn 0 10000 && (okR' p.mean && (inB p.mean.num 0 (12 * p.mean.den) && (decide (p.reqs.length ≤ 64) && !(p.reqs.any (fun q => !goodQ q)))))))
def checkP (p : Pg) : Int := if goodP p then 0 else 190
theorem dgWithin_any (n lo hi : Int) (w : World) :
 Calls Tryz.prog 78 #[.int .i64 n, .int .i64 lo, .int .i64 hi] w fun e w' => e = .returned (.bool (inB n lo hi)) ∧ w = w' := by
 go_enter Tryz.func78, Tryz.ntmps78
 go_wp2
 all_goals go_ret
 all_goals refine ⟨ret_bool ?_, rfl⟩
 all_goals (unfold inB; simp_all <;> omega)
theorem dgFrom_any (n : Int) (w : World) :
 Calls Tryz.prog 80 #[.int .i64 n] w fun e w' => e = .returned (.bool (!inB n 0 4095)) ∧ w = w' := by
 go_enter Tryz.func80, Tryz.ntmps80
 go_wp2_with fail
 refine (dgWithin_any _ _ _ _).mono ?_
 rintro e w1 ⟨rfl, rfl⟩
 go_wp2_with fail
 go_ret
 exact ⟨rfl, rfl⟩
set_option maxHeartbeats 2000000 in
theorem dgIndex_any (p : Int → Bool) (g : Nat) (fr : Array Value) (xs : List Int) (A : Option Addr) (c : Nat) (w : World)
 (hf : ∀ (x : Int) (W : World), Below w.heap.size w W → Calls Tryz.prog g (#[.int .i64 x] ++ fr) W fun e W' => e = .returned (.bool (p x)) ∧ Below W.heap.size W W')
 (hg : ∀ (args : Array Value) (W : World), Sem.run Tryz.prog (callFunc g args) W = .ok (.enter g args) W)
 (hx : Reads w w.heap.size A 1 intE xs) (hl : xs.length ≤ 9223372036854775807) :
 Calls Tryz.prog 121 #[.slice A xs.length c, .func (.func g) #[] fr] w fun e w' => (∃ m : Int, e = .returned (.int .i64 m) ∧ decide (0 ≤ m) = xs.any p) ∧ Below w.heap.size w w' := by
 have HF := Lib.hid hf
 have HX := Lib.hid hx
 clear hf hx
 go_enter Tryz.func121, Tryz.ntmps121
 go_wp2_with fail
 go_loopw [8] (fun i wr => ∃ k : Nat, k ≤ xs.length ∧ i = .int .i64 k ∧ (∀ j (h : j < xs.length), j < k → p xs[j] = false) ∧ Below w.heap.size w wr) (fun i _ => xs.length - (intOf i).toNat)
 case atStart => exact ⟨0, Nat.zero_le _, rfl, fun _ _ h => absurd h (by omega), Below.refl _ _⟩
 case round =>
  obtain ⟨k, hk, rfl, hno, hB⟩ := hrel
  have HNO := Lib.hid hno
  clear hno
  by_cases hlt : k < xs.length
  ·obtain ⟨bb, off, x, rfl, hbl, hxk, hc⟩ := (HX.out.below hB).at_ hlt
   have c0 := hc 0 _ rfl
   simp only [Nat.add_zero, Nat.mul_one] at c0
   have HXK := Lib.hid hxk
   have hb2 : bb < wr.heap.size := by have := hB.size; omega
   have HB := Lib.hid hB
   clear hc hxk hB
   cases hp : p x
   ·have HP := Lib.hid hp
    clear hp
    go_wp2_with fail
    refine (HF.out x _ HB.out).mono ?_
    rw [HP.out]
    rintro e w1 ⟨rfl, hb1⟩
    go_wp2_with fail
    go_roundw
    case rel => exact ⟨k + 1, by omega, by go_num, step_no HNO.out HXK.out HP.out, HB.out.trans (hb1.mono HB.out.size)⟩
    case measure => simp [intOf]; omega
   ·have HP := Lib.hid hp
    clear hp
    go_wp2_with fail
    refine (HF.out x _ HB.out).mono ?_
    rw [HP.out]
    rintro e w1 ⟨rfl, hb1⟩
    go_wp2_with fail
    go_ret
    exact ⟨⟨_, rfl, by rw [any_true HXK.out HP.out]; simp⟩, HB.out.trans (hb1.mono HB.out.size)⟩
  ·obtain rfl : k = xs.length := by omega
   have HA : Hid (xs.any p = false) := Lib.hid (any_false (fun j hj => HNO.out j hj hj))
   go_wp2_with fail
   go_ret
   exact ⟨⟨_, rfl, by rw [HA.out]; decide⟩, hB⟩
theorem dgContains_any (p : Int → Bool) (g : Nat) (fr : Array Value) (xs : List Int) (A : Option Addr) (c : Nat) (w : World)
 (hf : ∀ (x : Int) (W : World), Below w.heap.size w W → Calls Tryz.prog g (#[.int .i64 x] ++ fr) W fun e W' => e = .returned (.bool (p x)) ∧ Below W.heap.size W W')
 (hg : ∀ (args : Array Value) (W : World), Sem.run Tryz.prog (callFunc g args) W = .ok (.enter g args) W)
 (hx : Reads w w.heap.size A 1 intE xs) (hl : xs.length ≤ 9223372036854775807) :
 Calls Tryz.prog 79 #[.slice A xs.length c, .func (.func g) #[] fr] w fun e w' => e = .returned (.bool (xs.any p)) ∧ Below w.heap.size w w' := by
 go_enter Tryz.func79, Tryz.ntmps79
 go_wp2_with fail
 refine (dgIndex_any p g fr xs A c _ hf hg hx hl).mono ?_
 rintro e w1 ⟨⟨m, rfl, hm⟩, hb1⟩
 have HM := Lib.hid hm
 clear hm
 go_wp2_with fail
 go_ret
 exact ⟨ret_bool HM.out, hb1⟩
set_option maxHeartbeats 2000000 in
theorem dgGood_any {P : Nat → Prop} (q : Rq) (nm : ByteArray) (ns f : Sl) (w : World) (hf : SlR w P 1 intE f q.fr) :
 Calls Tryz.prog 77 #[rqV q nm ns f] w fun e w' => e = .returned (.bool (goodQ q)) ∧ Below w.heap.size w w' := by
 obtain ⟨A, n, c⟩ := f
 have hn := hf.1
 simp only at hn
 subst hn
 have hm : q.fr.length ≤ 9223372036854775807 := Nat.le_trans hf.2.1 hf.2.2.1
 have HR := Lib.hid hf.reads
 clear hf
 unfold rqV goodQ
 simp only
 cases b1 : inB q.credits 1 10000
 ·have B1 := Lib.hid b1
  clear b1
  go_enter Tryz.func77, Tryz.ntmps77
  go_wp2_with fail
  refine (dgWithin_any _ _ _ _).mono ?_
  rw [B1.out]
  rintro e w1 ⟨rfl, rfl⟩
  go_wp2_with fail
  go_ret
  exact ⟨rfl, by go_grown⟩
 have B1 := Lib.hid b1
 clear b1
 cases b2 : inB q.grade 0 12
 ·have B2 := Lib.hid b2
  clear b2
  go_enter Tryz.func77, Tryz.ntmps77
  go_wp2_with fail
  refine (dgWithin_any _ _ _ _).mono ?_
  rw [B1.out]
  rintro e w1 ⟨rfl, rfl⟩
  go_wp2_with fail
  refine (dgWithin_any _ _ _ _).mono ?_
  rw [B2.out]
  rintro e w1 ⟨rfl, rfl⟩
  go_wp2_with fail
  go_ret
  exact ⟨rfl, by go_grown⟩
 have B2 := Lib.hid b2
 clear b2
 obtain ⟨b3, hb3⟩ : ∃ b, b = q.fr.any (fun c => !inB c 0 4095) := ⟨_, rfl⟩
 rw [← hb3]
 have B3 := Lib.hid hb3
 clear hb3
 go_enter Tryz.func77, Tryz.ntmps77
 go_wp2_with fail
 refine (dgWithin_any _ _ _ _).mono ?_
 rw [B1.out]
 rintro e w1 ⟨rfl, rfl⟩
 go_wp2_with fail
 refine (dgWithin_any _ _ _ _).mono ?_
 rw [B2.out]
 rintro e w1 ⟨rfl, rfl⟩
 go_wp2_with fail
 refine (dgContains_any (fun c => !inB c 0 4095) 80 #[] q.fr A c _ (fun x W _ => (dgFrom_any x W).mono fun e W' h => ⟨h.1, by rw [← h.2]; exact Below.refl _ _⟩) (enters_of Tryz.func80 (by kernel_rfl) rfl) ((HR.out.alloc (Nat.le_refl _) _).more (by simp)) hm).mono ?_
 rw [← B3.out]
 rintro e w1 ⟨rfl, hb1⟩
 go_wp2_with fail
 go_ret
 exact ⟨by simp, ((Below.refl _ _).alloc (Nat.le_refl _) _).trans (hb1.mono (by simp))⟩
set_option maxHeartbeats 4000000 in
theorem dgCheck_any {P : Nat → Prop} (p : Pg) (s : Sl) (w : World) (hr : Rqs w P s p.reqs) (hi : p.mean.i64) :
 Calls Tryz.prog 44 #[pgV p s] w fun e w' => e = .returned (.int .i64 (checkP p)) ∧ Below w.heap.size w w' := by
 have hn := hr.len
 have HR := Lib.hid hr
 have HC := Lib.hid (fun W => Check_any p.mean hi W)
 have hden : okR' p.mean = true → 1 ≤ p.mean.den ∧ p.mean.den ≤ 1073741824 := fun h => by
  have := checkR_zero (of_decide_eq_true h)
  exact ⟨this.1, this.2.1⟩
 obtain ⟨A, n, c⟩ := s
 simp only at hn
 subst hn
 clear hr hi
 obtain ⟨E, hE⟩ : ∃ E, E = checkP p := ⟨_, rfl⟩
 rw [← hE]
 unfold pgV
 simp only [Ra.v] at HC ⊢
 cases b1 : inB p.number 0 255
 ·obtain rfl : E = 190 := by rw [hE]; simp [checkP, goodP, b1]
  have B1 := Lib.hid b1
  clear hE b1 hden
  go_enter Tryz.func44, Tryz.ntmps44
  go_wp2_with fail
  refine (dgWithin_any _ _ _ _).mono ?_
  rw [B1.out]
  rintro e w1 ⟨rfl, rfl⟩
  go_wp2_with fail
  go_ret
  exact ⟨rfl, by go_grown⟩
 have B1 := Lib.hid b1
 cases b2 : inB p.uses 1 4
 ·obtain rfl : E = 190 := by rw [hE]; simp [checkP, goodP, b1, b2]
  have B2 := Lib.hid b2
  clear hE b1 b2 hden
  go_enter Tryz.func44, Tryz.ntmps44
  go_wp2_with fail
  refine (dgWithin_any _ _ _ _).mono ?_
  rw [B1.out]
  rintro e w1 ⟨rfl, rfl⟩
  go_wp2_with fail
  refine (dgWithin_any _ _ _ _).mono ?_
  rw [B2.out]
  rintro e w1 ⟨rfl, rfl⟩
  go_wp2_with fail
  go_ret
  exact ⟨rfl, by go_grown⟩
 have B2 := Lib.hid b2
 cases b3 : inB p.earn 0 10000
 ·obtain rfl : E = 190 := by rw [hE]; simp [checkP, goodP, b1, b2, b3]
  have B3 := Lib.hid b3
  clear hE b1 b2 b3 hden
  go_enter Tryz.func44, Tryz.ntmps44
  go_wp2_with fail
  refine (dgWithin_any _ _ _ _).mono ?_
  rw [B1.out]
  rintro e w1 ⟨rfl, rfl⟩
  go_wp2_with fail
  refine (dgWithin_any _ _ _ _).mono ?_
  rw [B2.out]
  rintro e w1 ⟨rfl, rfl⟩
  go_wp2_with fail
  refine (dgWithin_any _ _ _ _).mono ?_
  rw [B3.out]
  rintro e w1 ⟨rfl, rfl⟩
  go_wp2_with fail
  go_ret
  exact ⟨rfl, by go_grown⟩
 have B3 := Lib.hid b3
 cases b4 : okR' p.mean
 ·obtain rfl : E = 190 := by rw [hE]; simp [checkP, goodP, b1, b2, b3, b4]
  have B4 : Hid (checkR p.mean = 50) := Lib.hid (by unfold okR' at b4; have := of_decide_eq_false b4; unfold checkR at this ⊢; split <;> simp_all)
  clear hE b1 b2 b3 b4 hden
  go_enter Tryz.func44, Tryz.ntmps44
  go_wp2_with fail
  refine (dgWithin_any _ _ _ _).mono ?_
  rw [B1.out]
  rintro e w1 ⟨rfl, rfl⟩
  go_wp2_with fail
  refine (dgWithin_any _ _ _ _).mono ?_
  rw [B2.out]
  rintro e w1 ⟨rfl, rfl⟩
  go_wp2_with fail
  refine (dgWithin_any _ _ _ _).mono ?_
  rw [B3.out]
  rintro e w1 ⟨rfl, rfl⟩
  go_wp2_with fail
  refine (HC.out _).mono ?_
  rw [B4.out]
  rintro e w2 ⟨rfl, hb2⟩
  have hbx := (Bx.new w (pgC p ⟨A, p.reqs.length, c⟩) 44).step hb2
  have hbe : Below w.heap.size w w2 := ((Below.refl _ _).alloc (Nat.le_refl _) _).trans (hb2.mono (by simp))
  have p0 := hbx.1 0 _ rfl
  have p1 := hbx.1 1 _ rfl
  have p2 := hbx.1 2 _ rfl
  have p3 := hbx.1 3 _ rfl
  have p4 := hbx.1 4 _ rfl
  have p5 := hbx.1 5 _ rfl
  have p6 := hbx.1 6 _ rfl
  have pz := hbx.2.2
  have HBX := Lib.hid hbx
  have HBE := Lib.hid hbe
  clear hbx hbe hb2
  go_wp2_with fail
  go_ret
  exact ⟨rfl, HBE.out⟩
 have B4 : Hid (checkR p.mean = 0) := Lib.hid (of_decide_eq_true b4)
 obtain ⟨hd1, hd2⟩ := hden b4
 clear hden
 cases b5 : inB p.mean.num 0 (12 * p.mean.den)
 ·obtain rfl : E = 190 := by rw [hE]; simp [checkP, goodP, b1, b2, b3, b4, b5]
  have B5 := Lib.hid b5
  clear hE b1 b2 b3 b4 b5
  go_enter Tryz.func44, Tryz.ntmps44
  go_wp2_with fail
  refine (dgWithin_any _ _ _ _).mono ?_
  rw [B1.out]
  rintro e w1 ⟨rfl, rfl⟩
  go_wp2_with fail
  refine (dgWithin_any _ _ _ _).mono ?_
  rw [B2.out]
  rintro e w1 ⟨rfl, rfl⟩
  go_wp2_with fail
  refine (dgWithin_any _ _ _ _).mono ?_
  rw [B3.out]
  rintro e w1 ⟨rfl, rfl⟩
  go_wp2_with fail
  refine (HC.out _).mono ?_
  rw [B4.out]
  rintro e w2 ⟨rfl, hb2⟩
  have hbx := (Bx.new w (pgC p ⟨A, p.reqs.length, c⟩) 44).step hb2
  have hbe : Below w.heap.size w w2 := ((Below.refl _ _).alloc (Nat.le_refl _) _).trans (hb2.mono (by simp))
  have p0 := hbx.1 0 _ rfl
  have p1 := hbx.1 1 _ rfl
  have p2 := hbx.1 2 _ rfl
  have p3 := hbx.1 3 _ rfl
  have p4 := hbx.1 4 _ rfl
  have p5 := hbx.1 5 _ rfl
  have p6 := hbx.1 6 _ rfl
  have pz := hbx.2.2
  have HBX := Lib.hid hbx
  have HBE := Lib.hid hbe
  clear hbx hbe hb2
  go_wp2_with fail
  refine (dgWithin_any _ _ _ _).mono ?_
  rw [B5.out]
  rintro e w1 ⟨rfl, rfl⟩
  go_wp2_with fail
  go_ret
  exact ⟨rfl, HBE.out⟩
 have B5 := Lib.hid b5
 by_cases hl : p.reqs.length ≤ 64
 rotate_left
 ·have b6 : decide ((64 : Int) < (p.reqs.length : Int)) = true := by simp; omega
  have b7 : decide (p.reqs.length ≤ 64) = false := by simp; omega
  obtain rfl : E = 190 := by rw [hE]; simp only [checkP, goodP, b1, b2, b3, b4, b5, b7]; rfl
  clear b7 hl hE b1 b2 b3 b4 b5
  go_enter Tryz.func44, Tryz.ntmps44
  go_wp2_with fail
  refine (dgWithin_any _ _ _ _).mono ?_
  rw [B1.out]
  rintro e w1 ⟨rfl, rfl⟩
  go_wp2_with fail
  refine (dgWithin_any _ _ _ _).mono ?_
  rw [B2.out]
  rintro e w1 ⟨rfl, rfl⟩
  go_wp2_with fail
  refine (dgWithin_any _ _ _ _).mono ?_
  rw [B3.out]
  rintro e w1 ⟨rfl, rfl⟩
  go_wp2_with fail
  refine (HC.out _).mono ?_
  rw [B4.out]
  rintro e w2 ⟨rfl, hb2⟩
  have hbx := (Bx.new w (pgC p ⟨A, p.reqs.length, c⟩) 44).step hb2
  have hbe : Below w.heap.size w w2 := ((Below.refl _ _).alloc (Nat.le_refl _) _).trans (hb2.mono (by simp))
  have p0 := hbx.1 0 _ rfl
  have p1 := hbx.1 1 _ rfl
  have p2 := hbx.1 2 _ rfl
  have p3 := hbx.1 3 _ rfl
  have p4 := hbx.1 4 _ rfl
  have p5 := hbx.1 5 _ rfl
  have p6 := hbx.1 6 _ rfl
  have pz := hbx.2.2
  have HBX := Lib.hid hbx
  have HBE := Lib.hid hbe
  clear hbx hbe hb2
  go_wp2_with fail
  refine (dgWithin_any _ _ _ _).mono ?_
  rw [B5.out]
  rintro e w1 ⟨rfl, rfl⟩
  go_wp2_with fail
  go_ret
  exact ⟨rfl, HBE.out⟩
 have b6 : decide ((64 : Int) < (p.reqs.length : Int)) = false := by simp; omega
 have b7 : decide (p.reqs.length ≤ 64) = true := by simp; omega
 have HA1 : Hid (p.reqs.any (fun q => !goodQ q) = true → E = 190) := Lib.hid (fun h => by rw [hE]; simp only [checkP, goodP, b1, b2, b3, b4, b5, b7, h]; rfl)
 have HA0 : Hid (p.reqs.any (fun q => !goodQ q) = false → E = 0) := Lib.hid (fun h => by rw [hE]; simp only [checkP, goodP, b1, b2, b3, b4, b5, b7, h]; rfl)
 clear b7 hE b1 b2 b3 b4 b5
 have HL := Lib.hid hl
 have hl2 : p.reqs.length ≤ 9223372036854775807 := by omega
 clear hl
 go_enter Tryz.func44, Tryz.ntmps44
 go_wp2_with fail
 refine (dgWithin_any _ _ _ _).mono ?_
 rw [B1.out]
 rintro e w1 ⟨rfl, rfl⟩
 go_wp2_with fail
 refine (dgWithin_any _ _ _ _).mono ?_
 rw [B2.out]
 rintro e w1 ⟨rfl, rfl⟩
 go_wp2_with fail
 refine (dgWithin_any _ _ _ _).mono ?_
 rw [B3.out]
 rintro e w1 ⟨rfl, rfl⟩
 go_wp2_with fail
 refine (HC.out _).mono ?_
 rw [B4.out]
 rintro e w2 ⟨rfl, hb2⟩
 have hbx := (Bx.new w (pgC p ⟨A, p.reqs.length, c⟩) 44).step hb2
 have hbe : Below w.heap.size w w2 := ((Below.refl _ _).alloc (Nat.le_refl _) _).trans (hb2.mono (by simp))
 have p0 := hbx.1 0 _ rfl
 have p1 := hbx.1 1 _ rfl
 have p2 := hbx.1 2 _ rfl
 have p3 := hbx.1 3 _ rfl
 have p4 := hbx.1 4 _ rfl
 have p5 := hbx.1 5 _ rfl
 have p6 := hbx.1 6 _ rfl
 have pz := hbx.2.2
 have HBX := Lib.hid hbx
 have HBE := Lib.hid hbe
 clear hbx hbe hb2
 go_wp2_with fail
 refine (dgWithin_any _ _ _ _).mono ?_
 rw [B5.out]
 rintro e w1 ⟨rfl, rfl⟩
 go_wp2_with fail
 go_loopw [48] (fun i wr => ∃ k : Nat, k ≤ p.reqs.length ∧ i = .int .i64 k ∧ (∀ j (h : j < p.reqs.length), j < k → (!goodQ p.reqs[j]) = false) ∧ Below w2.heap.size w2 wr) (fun i _ => p.reqs.length - (intOf i).toNat)
 case atStart => exact ⟨0, Nat.zero_le _, rfl, fun _ _ h => absurd h (by omega), Below.refl _ _⟩
 case round =>
  clear p0 p1 p2 p3 p4 p5 p6 b6
  obtain ⟨k, hk, rfl, hno, hB⟩ := hrel
  have HNO := Lib.hid hno
  clear hno
  have hBE2 : Below w.heap.size w wr := HBE.out.trans (hB.mono HBE.out.size)
  by_cases hlt : k < p.reqs.length
  ·obtain ⟨bb, off, q, nm, ns, f, ha, hbb, hxk, hq, c0, c1, c2, c3, c4, c5⟩ := (HR.out.step hBE2).at_ hlt
   simp only at ha
   subst ha
   have HXK := Lib.hid hxk
   have HQ := Lib.hid hq
   have HB := Lib.hid hB
   have HE := Lib.hid hBE2
   clear hxk hq hB hBE2
   cases hp : goodQ q
   all_goals
    have HP := Lib.hid hp
    clear hp
    go_wp2_with fail
    refine (dgGood_any (P := P) q nm ns f _ (HQ.out.step ((Below.refl _ _).alloc (Nat.le_refl _) _))).mono ?_
    rw [HP.out]
    rintro e w3 ⟨rfl, hb3⟩
    have hb4 : Below wr.heap.size wr w3 := ((Below.refl _ _).alloc (Nat.le_refl _) _).trans (hb3.mono (by simp))
    go_wp2_with fail
   ·go_ret
    exact ⟨by rw [HA1.out (any_true HXK.out (by simp [HP.out]))]; rfl, HE.out.trans (hb4.mono HE.out.size)⟩
   ·go_roundw
    case rel => exact ⟨k + 1, by omega, by go_num, step_no (p := fun q => !goodQ q) HNO.out HXK.out (by simp [HP.out]), HB.out.trans (hb4.mono HB.out.size)⟩
    case measure => simp [intOf]; omega
  ·obtain rfl : k = p.reqs.length := by omega
   have HA : Hid (p.reqs.any (fun q => !goodQ q) = false) := Lib.hid (any_false (fun j hj => HNO.out j hj hj))
   have HE := Lib.hid hBE2
   clear hBE2
   go_wp2_with fail
   go_ret
   exact ⟨by rw [HA0.out HA.out]; rfl, HE.out⟩
theorem goodP_iff (p : Pg) : goodP p = true ↔ (0 ≤ p.number ∧ p.number ≤ 255) ∧ (1 ≤ p.uses ∧ p.uses ≤ 4) ∧ (0 ≤ p.earn ∧ p.earn ≤ 10000) ∧ checkR p.mean = 0 ∧ (0 ≤ p.mean.num ∧ p.mean.num ≤ 12 * p.mean.den) ∧ p.reqs.length ≤ 64 ∧ (p.reqs.any (fun q => !goodQ q)) = false := by
 simp only [goodP, inB, okR', Bool.and_eq_true, decide_eq_true_eq, Bool.not_eq_true']
theorem goodQ_iff (q : Rq) : goodQ q = true ↔ (1 ≤ q.credits ∧ q.credits ≤ 10000) ∧ (0 ≤ q.grade ∧ q.grade ≤ 12) ∧ (q.fr.any (fun c => !inB c 0 4095)) = false := by
 simp only [goodQ, inB, Bool.and_eq_true, decide_eq_true_eq, Bool.not_eq_true']
theorem checkP_no {p : Pg} (h : ¬ goodP p = true) : checkP p = 190 := by unfold checkP; rw [if_neg h]
theorem checkP_ok {p : Pg} (h : goodP p = true) : checkP p = 0 := by unfold checkP; rw [if_pos h]
theorem goodP_of {p : Pg} (h : checkP p = 0) : goodP p = true := by
 unfold checkP at h
 split at h
 ·assumption
 ·simp at h
end Go.Proofs.YtalmbigebjbaoaaGreatDoor
