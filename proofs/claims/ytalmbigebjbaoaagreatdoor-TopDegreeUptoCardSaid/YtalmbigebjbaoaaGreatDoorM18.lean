/- TopDegree, what its proof leans on: the texts FlowJ. -/
import Derived.Test.YtalmbigebjbaoaaGreatDoorM17
namespace Go.Proofs.YtalmbigebjbaoaaGreatDoor.Fl
open Go.RowKit Go.Shelf
set_option linter.unusedSimpArgs false
set_option linter.unusedVariables false
def CutOk (n : Nat) (cs : List Bool) (c : Int → Bool) : Prop := cs.length = n ∧ ∀ i : Nat, i < n → cs[i]? = some (c i)
def MaxOut (n a b : Int) (l : List Ed) (w' : World) (e : Ending) : Prop :=
 (okX n l a b = true ∧ ∃ F C xs cs c, e = .returned (.tuple #[.slice (some ⟨F, 0, none⟩) l.length l.length, .slice (some ⟨C, 0, none⟩) n.toNat n.toNat, .int .i64 0]) ∧ MaxR n.toNat l a b xs c ∧ xs.length = l.length ∧ CutOk n.toNat cs c ∧
   Reads w' w'.heap.size (some ⟨F, 0, none⟩) 1 intE xs ∧ Reads w' w'.heap.size (some ⟨C, 0, none⟩) 1 boolE cs) ∨
 (okX n l a b = false ∧ e = .returned (.tuple #[.slice none 0 0, .slice none 0 0, .int .i64 180]))
def MI (w : World) (P : Nat → Prop) (S0 bf bt bw B F n : Nat) (a b : Nat) (l : List Ed) (adj : List (List Nat)) (xs : List Int) (W : World) : Prop :=
 Net W P B F n l adj ∧ FlAt W F xs ∧ IsFl n l a b xs ∧ One W bf (.int .i64 a) 3 ∧ One W bt (.int .i64 b) 3 ∧ One W bw (.pointer (some ⟨B, 0, none⟩)) 168 ∧ Below w.heap.size w W ∧ S0 ≤ W.heap.size
theorem MI.step {w : World} {P : Nat → Prop} {S0 bf bt bw B F n : Nat} {a b : Nat} {l : List Ed} {adj : List (List Nat)} {xs : List Int} {W W' : World} (h : MI w P S0 bf bt bw B F n a b l adj xs W) (hb : Below W.heap.size W W') : MI w P S0 bf bt bw B F n a b l adj xs W' := by
 obtain ⟨h1, h2, h3, h4, h5, h6, h7, h8⟩ := h
 exact ⟨h1.step hb, h2.step hb, h3, h4.step hb, h5.step hb, h6.step hb, h7.trans (hb.mono h7.size), Nat.le_trans h8 hb.size⟩
theorem MI.far {w : World} {P : Nat → Prop} {S0 bf bt bw B F n : Nat} {a b : Nat} {l : List Ed} {adj : List (List Nat)} {xs : List Int} {W : World} (h : MI w P S0 bf bt bw B F n a b l adj xs W) {ad : Addr} (v : Value) (hP : ¬ P ad.block) (hF : F ≠ ad.block) (h1 : bf ≠ ad.block) (h2 : bt ≠ ad.block) (h3 : bw ≠ ad.block) (h4 : w.heap.size ≤ ad.block) : MI w P S0 bf bt bw B F n a b l adj xs (W.setCell ad v) := by
 obtain ⟨m1, m2, m3, m4, m5, m6, m7, m8⟩ := h
 refine ⟨m1.keep ⟨by rw [World.size_setCell]; exact Nat.le_refl _, fun b hb hl => Below.heap_setCell _ _ _ _ (fun e => hP (by rw [← e]; exact hb))⟩, m2.far hF _, m3, m4.far h1 _, m5.far h2 _, m6.far h3 _, m7.setCell h4 _, by rw [World.size_setCell]; exact m8⟩
def AB (w : World) (P : Nat → Prop) (S M xb B F Y n : Nat) (a b : Nat) (l : List Ed) (adj : List (List Nat)) (bys ys : List Int) (W : World) : Prop :=
 AlM W P (M + 1) M S xb B F Y n a b l adj bys ∧ FlAt W F ys ∧ Below w.heap.size w W ∧ S + 1 ≤ W.heap.size
section
variable {w : World} {P : Nat → Prop} {S M xb B F Y n : Nat} {a b : Nat} {l : List Ed} {adj : List (List Nat)} {bys ys : List Int} {W W' : World}
theorem AB.step (h : AB w P S M xb B F Y n a b l adj bys ys W) (hb : Below W.heap.size W W') : AB w P S M xb B F Y n a b l adj bys ys W' := by
 obtain ⟨⟨h1, h2, h3, h4, h5, h6⟩, h7, h8, h9⟩ := h
 exact ⟨⟨h1.step hb, h2.step hb, h3.step hb, h4.step hb, h5.step hb, h6.step hb⟩, h7.step hb, h8.trans (hb.mono h8.size), Nat.le_trans h9 hb.size⟩
theorem AB.far (h : AB w P S M xb B F Y n a b l adj bys ys W) {E : Nat} (v : Value) (hP : ∀ q, P q → q < E) (hE : M + 1 < E ∧ S < E ∧ xb < E ∧ F < E ∧ Y < E ∧ w.heap.size ≤ E) : AB w P S M xb B F Y n a b l adj bys ys (W.setCell ⟨E, 0, none⟩ v) := by
 obtain ⟨⟨h1, h2, h3, h4, h5, h6⟩, h7, h8, h9⟩ := h
 obtain ⟨e1, e2, e3, e4, e5, e6⟩ := hE
 refine ⟨⟨h1.far (by show M + 1 ≠ E; omega) _, h2.far (by show M ≠ E; omega) _, h3.far (by show S ≠ E; omega) _, h4.far (by show xb ≠ E; omega) _, h5.far (by show Y ≠ E; omega) _, h6.keep ⟨by rw [World.size_setCell]; exact Nat.le_refl _, fun q hq hl => Below.heap_setCell _ _ _ _ (fun e => ?_)⟩⟩, h7.far (by show F ≠ E; omega) _, h8.setCell e6 _, by rw [World.size_setCell]; exact h9⟩
 have := hP q hq
 have e' : q = E := e
 omega
theorem AB.flow (h : AB w P S M xb B F Y n a b l adj bys ys W) (i : Nat) (v : Int) (hP : ¬ P F) (hF : M + 1 < F ∧ F < S ∧ S < Y ∧ Y < xb ∧ w.heap.size ≤ F) : AB w P S M xb B F Y n a b l adj bys (ys.set i v) (W.setCell ⟨F, i, none⟩ (.int .i64 v)) := by
 obtain ⟨⟨h1, h2, h3, h4, h5, h6⟩, h7, h8, h9⟩ := h
 obtain ⟨e1, e2, e3, e4, e5⟩ := hF
 exact ⟨⟨h1.far (by show M + 1 ≠ F; omega) _, h2.far (by show M ≠ F; omega) _, h3.far (by show S ≠ F; omega) _, h4.far (by show xb ≠ F; omega) _, h5.far (by show Y ≠ F; omega) _, h6.keep ⟨by rw [World.size_setCell]; exact Nat.le_refl _, fun q hq hl => Below.heap_setCell _ _ _ _ (fun e => hP (by have e' : q = F := e; rw [← e']; exact hq))⟩⟩, h7.set i v, h8.setCell e5 _, by rw [World.size_setCell]; exact h9⟩
end
theorem FlAt.reads {w : World} {F : Nat} {xs : List Int} (h : FlAt w F xs) : Reads w w.heap.size (some ⟨F, 0, none⟩) 1 intE xs := fun _ => ⟨F, 0, rfl, h.lt, fun i x j v hi hj => by
 have hil := (List.getElem?_eq_some_iff.1 hi).1
 cases j with
 | zero =>
   simp [intE] at hj
   subst hj
   have := h.cell hil
   rw [getD_some hi] at this
   simpa using this
 | succ j => simp [intE] at hj⟩
theorem out_zeros : ∀ (l : List Ed) (v : Int), outE l (List.replicate l.length 0) v = 0
 | [], v => rfl
 | e :: l, v => by
   simp only [List.length_cons, List.replicate_succ, outE, out_zeros l v]
   simp
theorem Tryz.infoBo : (Tryz.prog.info? 4).map (fun i => (i.zero, i.size, i.bytes)) = some (some (.bool false), 1, 1) := by kernel_rfl
def cutL (n : Nat) (bys : List Int) (k : Nat) : List Bool := (List.range n).map fun i => decide (i < k) && decide (0 ≤ bys.getD i 0)
theorem cutL_len (n : Nat) (bys : List Int) (k : Nat) : (cutL n bys k).length = n := by simp [cutL]
theorem cutL_zero (n : Nat) (bys : List Int) : (cutL n bys 0).map Value.bool = List.replicate n (.bool false) := by
 apply List.ext_getElem?
 intro i
 simp [cutL, List.getElem?_replicate, List.getElem?_range]
 by_cases h : i < n <;> simp [h]
theorem cutL_next (n : Nat) (bys : List Int) (k : Nat) (hk : k < n) : (cutL n bys k).set k (decide (0 ≤ bys.getD k 0)) = cutL n bys (k + 1) := by
 apply List.ext_getElem?
 intro i
 rw [List.getElem?_set]
 by_cases h : k = i
 ·subst h
  rw [if_pos rfl, if_pos (by rw [cutL_len]; exact hk)]
  simp [cutL, hk]
 ·rw [if_neg h]
  simp only [cutL, List.getElem?_map]
  by_cases hi : i < n
  ·rw [List.getElem?_range hi]
   simp only [Option.map_some]
   have : decide (i < k) = decide (i < k + 1) := by simp; omega
   rw [this]
  ·rw [List.getElem?_eq_none (by simpa using hi)]
   rfl
theorem made_falses (n : Nat) : madeCells (Value.bool false).cells n = (List.replicate n (Value.bool false)).toArray := by
 apply Array.ext
 ·simp [size_madeCells]
 ·intro i h1 h2
  simp [madeCells, Value.cells, Nat.mod_one]
theorem heap_reads_bools {w : World} {C : Nat} {cs : List Bool} (h : w.heap[C]? = some (.cells (cs.map Value.bool).toArray 4 (0, 0))) : Reads w w.heap.size (some ⟨C, 0, none⟩) 1 boolE cs := fun _ => ⟨C, 0, rfl, (Array.getElem?_eq_some_iff.1 h).1, fun i x j v hi hj => by
 cases j with
 | zero =>
   simp [boolE] at hj
   subst hj
   simp [World.cell?, h, hi]
 | succ j => simp [boolE] at hj⟩
set_option maxRecDepth 100000 in
set_option maxHeartbeats 8000000 in
theorem Max_any (n a b : Int) (hn64 : -9223372036854775808 ≤ n ∧ n ≤ 9223372036854775807) (l : List Ed) (A : Option Addr) (c : Nat) (w : World) (hx : Reads w w.heap.size A 3 Ed.enc l) (hlc : l.length ≤ c) (hc : c ≤ maxLen) (hnil : A = none → c = 0) :
 Calls Tryz.prog 47 #[.int .i64 n, .slice A l.length c, .int .i64 a, .int .i64 b] w fun e w' => MaxOut n a b l w' e ∧ Below w.heap.size w w' := by
 have HX := Lib.hid hx
 have HC := Lib.hid (And.intro hlc (And.intro hc hnil))
 have hl63 : l.length ≤ 9223372036854775807 := by unfold maxLen at hc; omega
 clear hx hlc hc hnil
 cases hok : okX n l a b
 ·have HO := Lib.hid hok
  clear hok
  go_enter Tryz.func47, Tryz.ntmps47
  go_wp2_with fail
  refine (check_any n a b l A c _ ((HX.out.below (((Below.refl _ _).alloc (Nat.le_refl _) _).alloc (by simp) _)).more (by simp; omega)) hl63).mono ?_
  rw [HO.out]
  simp only [if_false, Bool.false_eq_true]
  rintro e w1 ⟨rfl, hb1⟩
  have HB1 := Lib.hid ((((Below.refl w.heap.size w).alloc (Nat.le_refl _) (.cells #[.int .i64 a] 3)).alloc (by simp) (.cells #[.int .i64 b] 3)).trans (hb1.mono (by simp; omega)))
  clear hb1
  go_wp2_with fail
  go_ret3
  exact ⟨.inr ⟨HO.out, rfl⟩, HB1.out⟩
 ·have hok2 := hok
  simp only [okX, Bool.and_eq_true] at hok2
  obtain ⟨hn1, hn2, hn3, hn4⟩ := okN_out hok2.1
  obtain ⟨ha0, ha1, hb0, hb1, hab⟩ := okV_out hok2.2
  have hin := okX_inn hok
  have HO := Lib.hid hok
  obtain ⟨n, rfl⟩ : ∃ m : Nat, n = (m : Int) := ⟨n.toNat, by omega⟩
  obtain ⟨a, rfl⟩ : ∃ m : Nat, a = (m : Int) := ⟨a.toNat, by omega⟩
  obtain ⟨b, rfl⟩ : ∃ m : Nat, b = (m : Int) := ⟨b.toNat, by omega⟩
  simp only [Int.toNat_natCast] at hin
  have han : a < n := by omega
  have hbn : b < n := by omega
  have HIN := Lib.hid hin
  have HE := Lib.hid hn4
  have HAB : Hid (a ≠ b) := Lib.hid (by omega)
  have hll := hn3
  have hnn : n ≤ 4096 := by omega
  have hn2' : 1 ≤ n := by omega
  clear hok hok2 hn4 hn3 hin ha0 ha1 hb0 hb1 hab hn1 hn2 hn64
  go_enter Tryz.func47, Tryz.ntmps47
  go_wp2_with fail
  obtain ⟨w0, hw0⟩ : ∃ W, W = (w.alloc (.cells #[.int .i64 a] 3)).alloc (.cells #[.int .i64 b] 3) := ⟨_, rfl⟩
  have b0 : Below w.heap.size w w0 := by rw [hw0]; exact ((Below.refl _ _).alloc (Nat.le_refl _) _).alloc (by simp) _
  have z0 : w0.heap.size = w.heap.size + 2 := by rw [hw0]; simp
  have t0 : One w0 w.heap.size (.int .i64 a) 3 := by rw [hw0]; exact (Below.heap_alloc _ _ _ (by simp)).trans (heap_alloc_new w _)
  have t1 : One w0 (w.heap.size + 1) (.int .i64 b) 3 := by rw [hw0]; have := heap_alloc_new (w.alloc (.cells #[.int .i64 a] 3)) (.cells #[.int .i64 b] 3); rwa [World.size_alloc] at this
  rw [← hw0]
  obtain ⟨M, hM⟩ : ∃ M, M = w.heap.size := ⟨_, rfl⟩
  rw [← hM] at t0 t1 ⊢
  refine (check_any n a b l A c _ ((HX.out.below b0).more (by omega)) hl63).mono ?_
  rw [HO.out]
  simp only [if_true]
  rintro e w1 ⟨rfl, hb1⟩
  have o0 := t0.step hb1
  have o1 := t1.step hb1
  have B1 := b0.trans (hb1.mono b0.size)
  have HB1 := Lib.hid B1
  have HZ0 := Lib.hid z0
  have HM := Lib.hid hM
  clear hb1 t0 t1 b0 hw0 z0 hM
  go_wp2_with fail
  refine (newNetwork_any n l A c _ ((HX.out.below B1).more B1.size) HC.out.1 HC.out.2.1 HC.out.2.2 hnn hll HIN.out).mono ?_
  rintro e w2 ⟨⟨B, F, adj, P, rfl, hN, hF, hA, hP, hwF, hPF⟩, hb2⟩
  have p0 := o0.step hb2
  have p1 := o1.step hb2
  have B2 := B1.trans (hb2.mono B1.size)
  obtain ⟨S, hS⟩ : ∃ S, S = w2.heap.size := ⟨_, rfl⟩
  have hFS := hF.lt
  have h1F : M + 1 < F := by have := o1.lt; omega
  have HP := Lib.hid hP
  have HPF := Lib.hid hPF
  have HA := Lib.hid hA
  have bw2 : Below w2.heap.size w2 (w2.alloc (.cells #[.pointer (some ⟨B, 0, none⟩)] 168)) := (Below.refl _ _).alloc (Nat.le_refl _) _
  have HMI0 : Hid (MI w P (S + 1) M (M + 1) S B F n a b l adj (List.replicate l.length 0) (w2.alloc (.cells #[.pointer (some ⟨B, 0, none⟩)] 168))) := Lib.hid
   ⟨hN.step bw2, hF.step bw2, zeros_fl n l a b (fun e he => (okE_out (HE.out e he)).2.2.2.2.2.1), p0.step bw2, p1.step bw2, by rw [hS]; exact heap_alloc_new w2 _, B2.trans (bw2.mono B2.size), by rw [hS]; simp⟩
  rw [← hS] at hFS
  have HSS := Lib.hid hS
  obtain ⟨W3, hW3⟩ : ∃ X, X = w2.alloc (.cells #[.pointer (some ⟨B, 0, none⟩)] 168) := ⟨_, rfl⟩
  have hs2 : M + 1 < S := by omega
  clear hb2 o0 o1 p0 p1 hN hF hA hP hPF bw2 B1 B2 hwF
  go_wp2_with fail
  rw [← hS, ← hW3]
  rw [← hW3] at HMI0
  clear hS hW3
  go_loopg [] (sumM l).toNat (fun k wr => ∃ xs, MI w P (S + 1) M (M + 1) S B F n a b l adj xs wr ∧ (k : Int) = sumM l - outE l xs a)
  case atStart =>
   refine ⟨_, HMI0.out, ?_⟩
   have h := (zeros_fl n l a b (fun e he => (okE_out (HE.out e he)).2.2.2.2.2.1)).1
   have h2 : outE l (List.replicate l.length 0) a = 0 := out_zeros l a
   have h3 := (sumM_le l HE.out).1
   rw [h2]; omega
  case round =>
   obtain ⟨xs, hmi, hk⟩ := hrel
   have hout := out_le a l xs hmi.2.2.1.1
   have hxl : xs.length = l.length := ((bd_iff _ _).1 hmi.2.2.1.1).1
   have HMI := Lib.hid hmi
   have HKK := Lib.hid (And.intro hk (And.intro hout hxl))
   obtain ⟨m1, m2, m3, m4, m5, m6, m7, m8⟩ := hmi
   have c4 := m4.cell
   have c5 := m5.cell
   have c6 := m6.cell
   have HS := Lib.hid (search_any (P := P) a b wr m1 m2 m3.1 (fun e he => (okE_out (HE.out e he)).2.2.2.2.2.2) hll HA.out HIN.out hn2' hnn han hbn HAB.out (fun q hq => by have := HP.out q hq; have := HSS.out; omega))
   clear m1 m2 m3 m4 m5 m6 m7 m8 hk hout hxl
   go_wp2_with fail
   refine (HS.out).mono ?_
   rintro e w4 ⟨⟨Y, bys, ord, rfl, hY, hYf, hsr, hcl⟩, hb4⟩
   have hmi4 := HMI.out.step hb4
   have bx : Below w4.heap.size w4 (w4.alloc (.cells #[.slice (some ⟨Y, 0, none⟩) n n] 64)) := (Below.refl _ _).alloc (Nat.le_refl _) _
   have HM5 := Lib.hid (hmi4.step bx)
   have HY5 := Lib.hid (hYf.step bx)
   obtain ⟨W5, hW5⟩ : ∃ X, X = w4.alloc (.cells #[.slice (some ⟨Y, 0, none⟩) n n] 64) := ⟨_, rfl⟩
   obtain ⟨xb, hxb⟩ : ∃ q, q = w4.heap.size := ⟨_, rfl⟩
   have hbx5 : Hid (One W5 xb (.slice (some ⟨Y, 0, none⟩) n n) 64) := Lib.hid (by rw [hW5, hxb]; exact heap_alloc_new w4 _)
   have hz5 : S < Y ∧ Y < xb ∧ W5.heap.size = xb + 1 := by
    have := HMI.out.2.2.2.2.2.2.2
    have := hYf.lt
    rw [hW5, hxb]
    simp
    omega
   rw [← hW5] at HM5 HY5
   obtain ⟨y1, y2, y3⟩ := hz5
   have HSR := Lib.hid hsr
   have HCL := Lib.hid hcl
   have hbl := hsr.1
   have d0 := hbx5.out.cell
   have d1 := hbx5.out.lt
   have d2 := HM5.out.2.2.2.2.1.cell
   have d3 := HY5.out.cell (i := b) (by omega)
   have d4 := HY5.out.lt
   have HZ5 := Lib.hid y3
   have HXB := Lib.hid hxb
   clear hmi4 hYf hsr hcl hb4 bx hbl y3 c4 c5 c6
   go_upto_region 6 with fail
   rw [← hxb, ← hW5]
   clear hxb hW5
   obtain ⟨z, hz⟩ : ∃ z, z = bys.getD b 0 := ⟨_, rfl⟩
   rw [← hz] at d3
   have HZ := Lib.hid hz
   clear hz
   by_cases hz0 : z < 0
   ·have hmaxr : Hid (MaxR n l a b xs (fun v => decide (v ∈ ord)) ∧ CutOk n (cutL n bys n) (fun v => decide (v ∈ ord))) := Lib.hid (by
     obtain ⟨r1, r2, r3, r4, r5⟩ := HSR.out
     have hbo : (b : Int) ∉ ord := fun h => by have := (r4 b hbn).1 h; rw [← HZ.out] at this; omega
     refine ⟨r2.max HM5.out.2.2.1 hbo (HCL.out hbo) (fun v => by simp), cutL_len _ _ _, fun i hi => ?_⟩
     have e : decide (0 ≤ bys.getD i 0) = decide ((i : Int) ∈ ord) := decide_eq_decide.2 (r4 i hi).symm
     unfold cutL
     rw [List.getElem?_map, List.getElem?_range hi, Option.map_some, e]
     simp [hi])
    obtain ⟨i0, hinf, hi0, hi1, hi2⟩ := info_parts Tryz.infoBo
    have hmk := fun W => run_make (P := Tryz.prog) W 33 4 i0 (.bool false) Tryz.underlying33 hinf hi0 .i64 .i64 (n : Int) (n : Int) (by omega) (by omega) (by rw [hi2]; omega) (by omega)
    rw [hi1] at hmk
    simp only [Int.toNat_natCast, Nat.mul_one, made_falses] at hmk
    obtain ⟨row, hrow⟩ : ∃ r, r = (List.replicate n (Value.bool false)).toArray := ⟨_, rfl⟩
    rw [← hrow] at hmk
    have HROW := Lib.hid hrow
    clear hinf hi0 hi1 hi2 hrow
    go_upto_region 8 with fail
    obtain ⟨W6, hW6⟩ : ∃ X, X = W5.alloc (.cells row 4) := ⟨_, rfl⟩
    obtain ⟨C, hC⟩ : ∃ q, q = W5.heap.size := ⟨_, rfl⟩
    have b6 : Below W5.heap.size W5 W6 := by rw [hW6]; exact (Below.refl _ _).alloc (Nat.le_refl _) _
    have HM6 := Lib.hid (HM5.out.step b6)
    have HY6 := Lib.hid (HY5.out.step b6)
    have hx6 := hbx5.out.step b6
    have HX6 := Lib.hid hx6
    have hr6 : Hid (W6.heap[C]? = some (.cells ((cutL n bys 0).map Value.bool).toArray 4 (0, 0))) := Lib.hid (by rw [hW6, hC, cutL_zero, ← HROW.out]; exact heap_alloc_new W5 _)
    have e0 := hx6.cell
    have e1 := hx6.lt
    have hCY : C ≠ Y ∧ C ≠ xb ∧ F < C ∧ S < C ∧ M + 1 < C := by have := HZ5.out; omega
    have HCY := Lib.hid hCY
    have hzC : Hid (W5.heap.size = C) := Lib.hid hC.symm
    rw [← hC, ← hW6]
    clear b6 hx6 hW6 hC d0 d1 d2 d3 d4 hmk hCY
    have hbl6 : bys.length = n := HSR.out.1
    have HBL6 := Lib.hid hbl6
    clear hbl6
    go_wp2_with fail
    go_loopw [42] (fun i wi => ∃ k : Nat, k ≤ n ∧ i = .int .i64 k ∧ MI w P (S + 1) M (M + 1) S B F n a b l adj xs wi ∧ FlAt wi Y bys ∧ wi.heap[C]? = some (.cells ((cutL n bys k).map Value.bool).toArray 4 (0, 0))) (fun i _ => n - (intOf i).toNat)
    case atStart => exact ⟨0, Nat.zero_le _, rfl, HM6.out, HY6.out, hr6.out⟩
    case round =>
     obtain ⟨k, hk, rfl, hm, hy, hr⟩ := hrel
     have HM7 := Lib.hid hm
     have HY7 := Lib.hid hy
     have HR7 := Lib.hid hr
     by_cases hlt : k < n
     ·have c7 := hy.cell (i := k) (by rw [HBL6.out]; exact hlt)
      have z7 := hy.lt
      have zC := (Array.getElem?_eq_some_iff.1 hr).1
      have c8 : wr.cell? ⟨C, k, none⟩ = some (.bool ((cutL n bys k).getD k false)) := by
       have hkl : k < (cutL n bys k).length := by rw [cutL_len]; exact hlt
       simp [World.cell?, hr, List.getElem?_eq_getElem hkl, List.getD_eq_getElem?_getD]
      have f8 : wr.frozen? ⟨C, k, none⟩ = false := by simp [World.frozen?, hr]
      obtain ⟨q, hq⟩ : ∃ q, q = (cutL n bys k).getD k false := ⟨_, rfl⟩
      rw [← hq] at c8
      obtain ⟨y, hy'⟩ : ∃ y, y = bys.getD k 0 := ⟨_, rfl⟩
      rw [← hy'] at c7
      have HYY := Lib.hid hy'
      clear hm hy hr hq hy'
      go_wp2_with fail
      go_roundw
      case rel =>
       obtain ⟨q1, q2, q3, q4, q5⟩ := HCY.out
       have hzM := HM.out
       refine ⟨k + 1, by omega, by go_num, HM7.out.far _ (fun hp => by have h1 : C < w2.heap.size := HP.out C hp; have := HSS.out; omega) (by show F ≠ C; omega) (by show M ≠ C; omega) (by show M + 1 ≠ C; omega) (by show S ≠ C; omega) (by show w.heap.size ≤ C; omega), HY7.out.far (a := ⟨C, k, none⟩) (by show Y ≠ C; omega) _, ?_⟩
       rw [heap_setCell_same wr C k _ _ _ HR7.out, ← cutL_next n bys k hlt, HYY.out]
       congr 2
       apply Array.ext'
       simp [List.map_set]
      case measure => simp [intOf]; omega
     ·obtain rfl : k = n := by omega
      obtain ⟨m1, m2, m3, m4, m5, m6, m7, m8⟩ := hm
      have g1 := m6.cell
      obtain ⟨Aq, cq, k0, k1, hB, _⟩ := m1.flowCell
      clear hy hr m1 m2 m3 m4 m5 m6 m7 m8 k0
      go_wp2_with fail
      go_ret3
      obtain ⟨r1, r2⟩ := hmaxr.out
      refine ⟨.inl ⟨HO.out, F, C, xs, cutL k bys k, fun v => decide (v ∈ ord), rfl, r1, HKK.out.2.2, r2, HM7.out.2.1.reads, heap_reads_bools HR7.out⟩, HM7.out.2.2.2.2.2.2.1⟩
   ·have hzp : 0 ≤ z := by omega
    have hbo : (b : Int) ∈ ord := (HSR.out.2.2.2.1 b hbn).2 (by rw [← HZ.out]; exact hzp)
    obtain ⟨kb, hkb⟩ := List.getElem?_of_mem hbo
    obtain ⟨rs, hw, hnd, hrl, hwa⟩ := HSR.out.2.1.wayAt kb _ hkb
    have hcap : ∀ r ∈ rs, 0 < capR l xs r := fun r hr => (hwa r hr).1
    have hcap1 : ∀ r ∈ rs, 1 ≤ capR l xs r := fun r hr => hcap r hr
    obtain ⟨dl, hdl⟩ : ∃ d, d = leastR l xs 1073741824 rs := ⟨_, rfl⟩
    have hd1 : 0 < dl := by rw [hdl]; exact leastR_pos l xs rs _ (by decide) hcap
    have hd2 : dl ≤ 1073741824 ∧ ∀ r ∈ rs, dl ≤ capR l xs r := by rw [hdl]; exact leastR_le l xs rs _
    have hrm : ∀ r ∈ rs, r < 2 * l.length := way_mem rs _ hw.way
    have hreach : ∀ r ∈ rs, 0 ≤ bys.getD (endR l r).toNat 0 := fun r hr => by
     obtain ⟨_, j, _, _, hj⟩ := hwa r hr
     have hm := List.mem_of_getElem? hj
     have hv := HSR.out.2.2.1 _ hm
     refine (HSR.out.2.2.2.1 (endR l r).toNat (by omega)).1 ?_
     rw [Int.toNat_of_nonneg hv.1]
     exact hm
    have HW := Lib.hid (And.intro hw (And.intro hnd (And.intro hcap (And.intro hd1 (And.intro hd2 (And.intro hrm hreach))))))
    have HDL := Lib.hid hdl
    clear hw hnd hrl hcap hcap1 hdl hd1 hd2 hrm hreach hbo hwa hkb
    go_wp2_with fail
    obtain ⟨E, hE⟩ : ∃ E, E = W5.heap.size := ⟨_, rfl⟩
    have hE2 : M + 1 < E ∧ S < E ∧ xb < E ∧ F < E ∧ Y < E ∧ w.heap.size ≤ E := by have := HZ5.out; have := HM.out; omega
    have hPE : ∀ q, P q → q < E := fun q hq => by have := HP.out q hq; have := HSS.out; omega
    have hF2 : M + 1 < F ∧ F < S ∧ S < Y ∧ Y < xb ∧ w.heap.size ≤ F := by have := HM.out; omega
    have b6 : Below W5.heap.size W5 (W5.alloc (.cells #[.int .i64 1073741824] 3)) := (Below.refl _ _).alloc (Nat.le_refl _) _
    have o6 : One (W5.alloc (.cells #[.int .i64 1073741824] 3)) E (.int .i64 1073741824) 3 := by rw [hE]; exact heap_alloc_new W5 _
    rw [← hE]
    obtain ⟨W6, hW6⟩ : ∃ X, X = W5.alloc (.cells #[.int .i64 1073741824] 3) := ⟨_, rfl⟩
    rw [← hW6] at b6 o6 ⊢
    have hAB : AB w P S M xb B F Y n a b l adj bys xs W6 := by
     obtain ⟨m1, m2, m3, m4, m5, m6, m7, m8⟩ := HM5.out
     exact AB.step (W := W5) ⟨⟨m5, m4, m6, hbx5.out, HY5.out, m1⟩, m2, m7, m8⟩ b6
    obtain ⟨q1, q2, q3, q4, q5, q6, q7⟩ := HW.out
    have hl200 : ∀ r, r ∈ rs → r < 200000 := fun r hr => by have := q6 r hr; omega
    clear hW6 b6
    refine (along_any (P := P) rs 86 #[.pointer (some ⟨E, 0, none⟩), .pointer (some ⟨S, 0, none⟩)] (fun pre W => AB w P S M xb B F Y n a b l adj bys xs W ∧ One W E (.int .i64 (leastR l xs 1073741824 pre)) 3) W6 HSR.out.1 hnn hll HIN.out hbn q1 q7
     (enters_of Tryz.func86 (by kernel_rfl) rfl) (fun pre W h => h.1.1) (fun pre W W' h hb => ⟨h.1.step hb, h.2.step hb⟩) (fun pre r post W h hrs => ?do1) ⟨hAB, o6⟩).mono ?_
    case do1 =>
     have hr : r ∈ rs := by rw [hrs]; simp
     refine (least_any (P := P) r _ E S W h.1.1.2.2.2.2.2 h.1.2.1 HM5.out.2.2.1.1 (fun e he => (okE_out (HE.out e he)).2.2.2.2.2.2) (q6 r hr) (hl200 r hr) h.2 h.1.1.2.2.1).mono ?_
     rintro e w' ⟨rfl, X, hX, rfl⟩
     exact ⟨rfl, (h.1.step hX).far _ hPE hE2, by rw [leastR_snoc]; exact (h.2.step hX).set _⟩
    rintro e w7 ⟨rfl, hAB7, ho7⟩
    rw [← HDL.out] at ho7
    have HAB7 := Lib.hid hAB7
    have HO7 := Lib.hid ho7
    have HE2 := Lib.hid (And.intro hE2 (And.intro hPE hF2))
    have HL2 := Lib.hid hl200
    clear q1 q2 q3 q4 q5 q6 q7 hAB o6 hAB7 ho7 hE2 hPE hF2 hl200 hE
    go_wp2_with fail
    obtain ⟨q1, q2, q3, q4, q5, q6, q7⟩ := HW.out
    refine (along_any (P := P) rs 88 #[.pointer (some ⟨S, 0, none⟩), .pointer (some ⟨E, 0, none⟩)] (fun pre W => AB w P S M xb B F Y n a b l adj bys (pushAll xs dl pre) W ∧ One W E (.int .i64 dl) 3) w7 HSR.out.1 hnn hll HIN.out hbn q1 q7
     (enters_of Tryz.func88 (by kernel_rfl) rfl) (fun pre W h => h.1.1) (fun pre W W' h hb => ⟨h.1.step hb, h.2.step hb⟩) (fun pre r post W h hrs => ?do2) ⟨HAB7.out, HO7.out⟩).mono ?_
    case do2 =>
     have hr : r ∈ rs := by rw [hrs]; simp
     have hbd : Bd l (pushAll xs dl pre) := push_bd (by omega) HM5.out.2.2.1.1 (fun r' hr' => ⟨q6 r' (by rw [hrs]; simp [hr']), q5.2 r' (by rw [hrs]; simp [hr'])⟩) (by rw [hrs] at q2; exact (List.nodup_append.1 q2).1)
     obtain ⟨p1, p2⟩ := (bd_iff _ _).1 hbd
     have hr2 := q6 r hr
     have hi : r / 2 < l.length := by omega
     have p3 := p2 (r / 2) hi
     have p4 := (okE_out (HE.out (l.getD (r / 2) default) (by simp [List.getD_eq_getElem?_getD, List.getElem?_eq_getElem hi]))).2.2.2.2.2.2
     refine (pushy_any (P := P) r dl E S W h.1.1.2.2.2.2.2 h.1.2.1 p1 hr2 (HL2.out r hr) (by omega) (by omega) h.2 h.1.1.2.2.1).mono ?_
     rintro e w' ⟨rfl, rfl⟩
     refine ⟨rfl, ?_, h.2.far (by show E ≠ F; have := HE2.out.1; omega) _⟩
     have := h.1.flow (r / 2) ((pushR (pushAll xs dl pre) dl r).getD (r / 2) 0) HPF.out HE2.out.2.2
     rw [push_row _ _ _ (by rw [p1]; exact hi)] at this
     show AB w P S M xb B F Y n a b l adj bys (pushAll xs dl (pre ++ [r])) _
     rw [pushAll_snoc]
     exact this
    rintro e w8 ⟨rfl, hAB8, ho8⟩
    have HAB8 := Lib.hid hAB8
    clear hAB8 ho8
    have haug := aug_fl (b := b) (by omega : (0 : Int) ≤ dl) HM5.out.2.2.1 q1.way q5.2 q2 (by have := HAB.out; omega)
    have HAUG := Lib.hid haug
    have hko := HKK.out.1
    have ho8 := out_le a l _ haug.1.1
    have HK8 : Hid ((sumM l - outE l (pushAll xs dl rs) a).toNat < gk ∧ ((sumM l - outE l (pushAll xs dl rs) a).toNat : Int) = sumM l - outE l (pushAll xs dl rs) a) := Lib.hid (by rw [haug.2] at ho8 ⊢; omega)
    clear q1 q2 q3 q4 q5 q6 q7 haug hko ho8
    go_wp2_with fail
    go_roundg (sumM l - outE l (pushAll xs dl rs) a).toNat
    case measure => exact HK8.out.1
    case rel =>
     obtain ⟨⟨h1, h2, h3, h4, h5, h6⟩, h7, h8, h9⟩ := HAB8.out
     exact ⟨_, ⟨h6, h7, HAUG.out.1, h2, h1, h3, h8, h9⟩, HK8.out.2⟩
end Go.Proofs.YtalmbigebjbaoaaGreatDoor.Fl
