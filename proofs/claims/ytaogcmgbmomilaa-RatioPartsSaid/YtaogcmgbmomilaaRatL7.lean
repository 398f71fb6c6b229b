/- RatioParts, walked. -/
import Derived.Test.YtaogcmgbmomilaaRatL6
import Derived.Test.YtaogcmgbmomilaaRatV
import Derived.Deep.RegionHeldLaw
import Derived.Deep.AppendLies
import Derived.Deep.RegionHeld3
import Derived.Deep.DeepCutAuto
namespace Go.Proofs.Ytaogcmgbmomilaa
open Go.RowKit Go.Shelf
set_option linter.unusedSimpArgs false
set_option linter.unusedVariables false

theorem Owns.drew {α : Type} {w : World} {b sz : Nat} {e : TypeId} {en : α → List Value} {v : Value} {ys : List α} (h : Owns w b e sz en v ys) : Owns w.drew b e sz en v ys := h

theorem step_append_reads {α : Type} {P : Program} {w : World} {en : α → List Value} {sz : Nat} {ops : Array Oper} {o : Oper} {a : Act} {K : Act → World → Prop} {Q : Exit → Act → World → Prop} {E : Prop} (hgd : o.guard = none) (s x : Operand) (t : TypeId)
    (ho : o.op = .call { callee := .builtin .append, args := #[s, x], argTypes := #[t, t] }) (hen : ∀ y, (en y).length = sz) (h1 : ∀ y, ∀ u ∈ en y, u.oneCell' = true)
    (base : Nat) (e : TypeId) (i : TypeInfo) (z : Value) (bytes : Nat) (ht : P.underlying t = some (.slice e)) (hi : P.info? e = some i) (hz : i.zero = some z)
    (hsize : i.size = sz) (hby : i.bytes = bytes) (hzs : z.cells.size = sz) (hsz : 0 < sz)
    (v : Value) (ys : List α) (hs : a.eval s = v) (hown : Owns w base e sz en v ys) (B : Nat) (A : Option Addr) (c : Nat) (xs : List α) (hx : a.eval x = .slice A xs.length c) (hr : Reads w B A sz en xs) (hnil : A = none → c = 0)
    (h63 : ys.length + xs.length ≤ maxLen) (hbytes : (ys.length + xs.length) * bytes ≤ 140737488355328) (hbase : base ≤ w.heap.size)
    (h : ∀ v' w', Owns w' base e sz en v' (ys ++ xs) → w.grownBy w' v.ownBlock → (v'.ownBlock = v.ownBlock ∨ v'.ownBlock = some w.heap.size) → K (a.put o.dst v') w') :
    if Region.wanted o (yielded ops a.tmps) = true then Oper.wp P o a w K Q else E := by
  have hw : Region.wanted o (yielded ops a.tmps) = true := by simp [Region.wanted, hgd]
  rw [if_pos hw]
  obtain ⟨v', w', hrun, h2, h3, h4, h5⟩ := run_append_reads (P := P) w hen h1 base t o.type e i z bytes ht hi hz hsize hby hzs hsz v ys hown B A c xs hr hnil h63 hbytes hbase
  unfold Oper.wp execOp
  simp only [ho, resolve, invoke, builtin, Sem.run_bind, Sem.run_pure, Result.andThen_ok, List.map_toArray, List.map_cons, List.map_nil, hs, hx, hrun]
  exact h _ _ h2 h3 h4

theorem box_after {W w' : World} {x y : Value} {t : TypeId} (h : Below (W.alloc (.cells #[x, y] t)).drew.heap.size (W.alloc (.cells #[x, y] t)).drew w') :
    w'.cell? ⟨W.heap.size, 0, none⟩ = some x ∧ w'.cell? ⟨W.heap.size, 1, none⟩ = some y ∧ w'.frozen? ⟨W.heap.size, 0, none⟩ = false ∧ w'.frozen? ⟨W.heap.size, 1, none⟩ = false ∧ W.heap.size < w'.heap.size := by
  have h2 : Below (W.heap.size + 1) (W.alloc (.cells #[x, y] t)) w' := ((Below.refl _ _).drew).trans (h.mono (by show W.heap.size + 1 ≤ (W.alloc (.cells #[x, y] t)).heap.size; simp))
  obtain ⟨_, c, f, z, _⟩ := below_new h2
  exact ⟨c 0, c 1, f 0, f 1, z⟩
/-- a box that holds a fraction, from block B on -/
def Box (B : Nat) (s : Value) (n d : Int) (W : World) : Prop := ∃ g : Nat, s = .pointer (some ⟨g, 0, none⟩) ∧ W.cell? ⟨g, 0, none⟩ = some (.int .i64 n) ∧ W.cell? ⟨g, 1, none⟩ = some (.int .i64 d) ∧ B ≤ g ∧ g < W.heap.size
theorem leafA {W w4 : World} {t : TypeId} {n d : Int} (h : Below W.drew.heap.size W.drew w4) : Box W.heap.size (.pointer (some ⟨w4.heap.size, 0, none⟩)) n d (w4.alloc (.cells #[.int .i64 n, .int .i64 d] t)) ∧ Below W.heap.size W (w4.alloc (.cells #[.int .i64 n, .int .i64 d] t)) := by
  have b : Below W.heap.size W w4 := ((Below.refl W.heap.size W).drew).trans h
  exact ⟨⟨w4.heap.size, rfl, by simp [go_sem], by simp [go_sem], b.size, by simp⟩, b.alloc b.size _⟩
theorem leafB {W w4 : World} {t : TypeId} {n d : Int} (h : Below (W.alloc (.cells #[.int .i64 0, .int .i64 0] t)).drew.heap.size (W.alloc (.cells #[.int .i64 0, .int .i64 0] t)).drew w4) :
    Box W.heap.size (.pointer (some ⟨W.heap.size, 0, none⟩)) n d ((w4.setCell ⟨W.heap.size, 0, none⟩ (.int .i64 n)).setCell ⟨W.heap.size, 1, none⟩ (.int .i64 d)) ∧ Below W.heap.size W ((w4.setCell ⟨W.heap.size, 0, none⟩ (.int .i64 n)).setCell ⟨W.heap.size, 1, none⟩ (.int .i64 d)) := by
  obtain ⟨l0, l1, _, _, lz⟩ := box_after h
  have hc := setB (setA ⟨l0, l1⟩ (.int .i64 n)) (.int .i64 d)
  have h2 : Below W.heap.size (W.alloc (.cells #[.int .i64 0, .int .i64 0] t)) w4 := ((Below.refl _ _).drew).trans (h.mono (by show W.heap.size ≤ (W.alloc (.cells #[.int .i64 0, .int .i64 0] t)).heap.size; simp))
  have b : Below W.heap.size W w4 := ((Below.refl W.heap.size W).alloc (Nat.le_refl _) _).trans h2
  exact ⟨⟨W.heap.size, rfl, hc.1, hc.2, Nat.le_refl _, by simpa [World.setCell] using lz⟩, (b.setCell (Nat.le_refl _) _).setCell (Nat.le_refl _) _⟩
theorem own_capI {w : World} {b sz : Nat} {e : TypeId} {en : Int → List Value} {A : Option Addr} {n c : Nat} {ys : List Int} (h : Owns w b e sz en (.slice A n c) ys) : ys.length ≤ c ∧ c ≤ maxLen := by
  rcases h.form with ⟨h1, h2⟩ | ⟨g, cap, h1, _, _, h2, h3⟩
  · cases h1
    rw [h2]
    exact ⟨Nat.zero_le _, by decide⟩
  · cases h1
    exact ⟨h3, h2⟩
/-- an append to v's row beside another row u, of one integer that lies in block g -/
theorem step_two {w0 w : World} {ops : Array Oper} {o : Oper} {a : Act} {K : Act → World → Prop} {Q : Exit → Act → World → Prop} {E : Prop} (hgd : o.guard = none) (s x : Operand)
    (ho : o.op = .call { callee := .builtin .append, args := #[s, x], argTypes := #[34, 34] }) (v u : Value) (ys zs : List Int) (n : Int) (g : Nat) (hs : a.eval s = v) (hx : a.eval x = .slice (some ⟨g, 0, none⟩) 1 1)
    (h1 : Owns w w0.heap.size 3 1 intE v ys) (h2 : Owns w w0.heap.size 3 1 intE u zs) (hA : Apart v u) (hB : Below w0.heap.size w0 w) (hc : w.cell? ⟨g, 0, none⟩ = some (.int .i64 n)) (hl : ys.length ≤ 1000)
    (h : ∀ v' w', Owns w' w0.heap.size 3 1 intE v' (ys ++ [n]) → Owns w' w0.heap.size 3 1 intE u zs → Apart v' u → Below w0.heap.size w0 w' → (∀ b o, b < w.heap.size → v.ownBlock ≠ some b → w'.cell? ⟨b, o, none⟩ = w.cell? ⟨b, o, none⟩) → w.heap.size ≤ w'.heap.size → K (a.put o.dst v') w') :
    if Region.wanted o (yielded ops a.tmps) = true then Oper.wp Try.prog o a w K Q else E := by
  obtain ⟨i0, hi0, hz0, hz1, hz2⟩ := info_parts Try.infoInt
  have hg : g < w.heap.size := cell_lt hc
  refine step_append_reads hgd s x _ ho intE_len intE_one w0.heap.size 3 i0 _ 8 Try.underlying34 hi0 hz0 hz1 hz2 rfl (by omega) v ys hs h1 (g + 1) (some ⟨g, 0, none⟩) 1 [n] hx ?_ (fun h => by cases h) (by simp [maxLen]; omega) (by simp; omega) hB.size ?_
  · intro _
    refine ⟨g, 0, rfl, by omega, fun i y j c hi hj => ?_⟩
    match i, j with
    | 0, 0 => simp at hi; subst hi; simp [intE] at hj; subst hj; simpa using hc
    | 0, j + 1 => simp [intE] at hj
    | i + 1, j => simp at hi
  · intro v' w' k1 k2 k3
    refine h v' w' k1 (h2.kept k2 (fun g a b => hA g b a)) (fun g a b => ?_) (hB.grown k2 hB.size (h1.base_le)) (fun b o hb hne => k2.cell_far ⟨b, o, none⟩ hb (fun e => hne e.symm)) k2.size
    rcases k3 with k | k
    · rw [k] at a; exact hA g a b
    · rw [k] at a
      cases a
      have := h2.lt _ b
      omega

set_option maxRecDepth 100000 in
set_option maxHeartbeats 16000000 in
theorem RatioParts_any {w : World} (us : List Int) (A : Option Addr) (c : Nat) (hx : Reads w w.heap.size A 1 I8.enc us) (hq : ∀ y ∈ us, I8.ok y) (hm : us.length ≤ maxLen)
    (vs : List Int) (D : Option Addr) (d : Nat) (hy : Reads w w.heap.size D 1 U8.enc vs) (hq2 : ∀ y ∈ vs, U8.ok y) (hm2 : vs.length ≤ maxLen) (f : Int) (wf : (Lit.int .u8 f).wf = true) :
    Calls Try.prog 10 #[.slice A us.length c, .slice D vs.length d, .int .u8 f] w fun e w' => e = .returned (.bool true) ∧ Below w.heap.size w w' := by
  unfold maxLen at hm hm2
  obtain ⟨f0, f1⟩ := bounds_u8 wf
  have HX := Lib.hid hx
  have HY := Lib.hid hy
  have HU : Hid (∀ y ∈ us, -128 ≤ y ∧ y ≤ 127) := Lib.hid (fun y h => by have := bounds_i8 (hq y h); omega)
  have HV : Hid (∀ y ∈ vs, 0 ≤ y ∧ y ≤ 255) := Lib.hid (fun y h => by have := bounds_u8 (hq2 y h); omega)
  clear hx hy hq hq2 wf
  by_cases h1 : 40 < us.length
  · have q1 : decide ((40 : Int) < (us.length : Int)) = true := by simp; omega
    clear h1
    go_enter Try.func10, Try.ntmps10
    go_wp2_with fail
    refine (sane_any _).mono ?_
    rintro e w1 ⟨rfl, hb1⟩
    go_wp2_with fail
    go_ret
    exact ⟨rfl, hb1⟩
  have q1 : decide ((40 : Int) < (us.length : Int)) = false := by simp; omega
  by_cases h2 : vs.length < us.length
  · have q2 : decide (vs.length < us.length) = true := by simpa using h2
    clear h1 h2
    go_enter Try.func10, Try.ntmps10
    go_wp2_with fail
    refine (sane_any _).mono ?_
    rintro e w1 ⟨rfl, hb1⟩
    go_wp2_with fail
    go_ret
    exact ⟨rfl, hb1⟩
  have q2 : decide (vs.length < us.length) = false := by simpa using h2
  have hlen : us.length ≤ 40 := by omega
  have hlv : us.length ≤ vs.length := by omega
  obtain ⟨p, hp⟩ : ∃ p : Nat, p = f.toNat % (us.length + 1) := ⟨_, rfl⟩
  have hpl : p ≤ us.length := by have := Nat.mod_lt f.toNat (show 0 < us.length + 1 by omega); omega
  have hrem : f % ((us.length : Int) + 1) = (p : Int) := by
    rw [hp, Int.natCast_emod, Int.toNat_of_nonneg f0]; rfl
  have hrem2 : f.tmod ((us.length : Int) + 1) = (p : Int) := by rw [Int.tmod_eq_emod_of_nonneg f0]; exact hrem
  have hnz : ¬ ((us.length : Int) + 1 = 0) := by omega
  have HSM : Hid (Small us (vs.take us.length)) := Lib.hid ⟨HU.out, fun y h => HV.out y (List.mem_of_mem_take h), by simp; omega, by omega⟩
  obtain ⟨i0, hi0, hz0, hz1, hz2⟩ := info_parts Try.infoInt
  have HI := Lib.hid hi0
  clear hi0 h1 h2 hp
  go_enter Try.func10, Try.ntmps10
  go_wp2_with fail
  refine (sane_any _).mono ?_
  rintro e w1 ⟨rfl, hb1⟩
  have HB1 := Lib.hid hb1
  clear hb1
  go_wp2_with fail
  clear hrem hrem2
  go_loopw [8, 9, 10, 11, 48] (fun v u o1 o2 i wr => ∃ k : Nat, k ≤ us.length ∧ i = .int .i64 k ∧ o1 = .int .i64 (sW ((us.zip vs).take (min k p))) ∧ o2 = .int .i64 (sW ((us.zip vs).take k) - sW ((us.zip vs).take (min k p))) ∧
      Owns wr w.heap.size 3 1 intE v (us.take k) ∧ Owns wr w.heap.size 3 1 intE u (vs.take k) ∧ Apart v u ∧ Below w.heap.size w wr)
    (fun _ _ _ _ i _ => us.length - (intOf i).toNat)
  case atStart => exact ⟨0, Nat.zero_le _, rfl, rfl, rfl, Owns.nil_ _ _ _ _ _, Owns.nil_ _ _ _ _ _, apart_nil _, HB1.out⟩
  case round =>
    clear HB1
    obtain ⟨k, hk, rfl, rfl, rfl, ho1, ho2, a12, hB⟩ := hrel
    have hzr := hB.size
    by_cases hlt : k < us.length
    · have hlt2 : k < vs.length := by omega
      obtain ⟨ba, oa, x, rfl, hba, hxk, hca⟩ := (HX.out.below hB).at_ hlt
      obtain ⟨bb, ob, n, rfl, hbb, hyk, hcb⟩ := (HY.out.below hB).at_ hlt2
      have a0 := hca 0 _ rfl
      have b0 := hcb 0 _ rfl
      simp only [Nat.add_zero, Nat.mul_one] at a0 b0
      obtain ⟨x0, x1⟩ := HU.out x (List.mem_of_getElem? hxk)
      obtain ⟨n0, n1⟩ := HV.out n (List.mem_of_getElem? hyk)
      have t1 : us.take (k + 1) = us.take k ++ [x] := take_at hxk
      have t2 : vs.take (k + 1) = vs.take k ++ [n] := take_at hyk
      have t4 : sW ((us.zip vs).take (k + 1)) = sW ((us.zip vs).take k) + n := by rw [take_at (zip_at hxk hyk), sW_snoc]
      have T1 := Lib.hid t1
      have T2 := Lib.hid t2
      have hl1 : (us.take k).length ≤ 40 := by simp; omega
      have hl2 : (vs.take k).length ≤ 40 := by simp; omega
      have hs1 := part_le HU.out HV.out k (by omega)
      have hs2 := part_le HU.out HV.out (min k p) (by omega)
      have hs3 := part_mono HU.out HV.out (min k p) k (by omega)
      obtain ⟨v, hv, ho1⟩ : ∃ v, v = _ ∧ Owns wr w.heap.size 3 1 intE v (us.take k) := ⟨_, rfl, ho1⟩
      subst hv
      obtain ⟨u, hu, ho2⟩ : ∃ u, u = _ ∧ Owns wr w.heap.size 3 1 intE u (vs.take k) := ⟨_, rfl, ho2⟩
      subst hu
      obtain ⟨SA, hSA⟩ : ∃ s, s = sW ((us.zip vs).take k) := ⟨_, rfl⟩
      obtain ⟨SB, hSB⟩ : ∃ s, s = sW ((us.zip vs).take (min k p)) := ⟨_, rfl⟩
      rw [← hSA] at t4 hs1 hs3
      rw [← hSB] at hs2 hs3
      rw [← hSA, ← hSB]
      have e1 : k < p → SB = SA := fun h => by rw [hSA, hSB, Nat.min_eq_left (by omega)]
      have e2 : ¬ k < p → sW ((us.zip vs).take (min (k + 1) p)) = SB := fun h => by rw [hSB, Nat.min_eq_right (by omega), Nat.min_eq_right (by omega)]
      have e3 : k < p → sW ((us.zip vs).take (min (k + 1) p)) = SA + n := fun h => by rw [Nat.min_eq_left (by omega), t4]
      have EE1 := Lib.hid e1
      have EE2 := Lib.hid e2
      have EE3 := Lib.hid e3
      clear e1 e2 e3 hSA hSB
      have HO1 := Lib.hid ho1
      have HO2 := Lib.hid ho2
      have A12 := Lib.hid a12
      have HB := Lib.hid hB
      have hba2 : ba < wr.heap.size := by omega
      have hbb2 : bb < wr.heap.size := by omega
      have nb1 : ∀ g, v.ownBlock = some g → g ≠ bb := fun g h e => by have := HO1.out.base_le g h; omega
      have nb2 : ∀ g, u.ownBlock = some g → g ≠ bb := fun g h e => by have := HO2.out.base_le g h; omega
      have NB1 := Lib.hid nb1
      have NB2 := Lib.hid nb2
      have wx : IntKind.i64.wrap x = x := IntWalk.i64_in _ (by omega)
      have wn : IntKind.i64.wrap n = n := IntWalk.i64_in _ (by omega)
      have T4 := Lib.hid t4
      clear hca hcb hxk hyk t1 t2 t4 ho1 ho2 a12 hB nb1 nb2
      go_upto_region 11 with fail
      go_cut [8, 9] (fun s8 s9 wx => Owns wx w.heap.size 3 1 intE s8 (us.take k ++ [x]) ∧ Owns wx w.heap.size 3 1 intE s9 (vs.take k ++ [n]) ∧ Apart s8 s9 ∧ Below w.heap.size w wx)
      case first =>
        go_region_held_law (fun w' => w'.cell? ⟨bb, ob + k, none⟩ = some (.int .u8 n)) (first | go_keep | (rw [k5 _ _ (by simp <;> omega) (fun e => NB1.out _ e rfl)]; assumption) | (rw [j5 _ _ (by have hk := k6; simp at hk ⊢; omega) (fun e => NB2.out _ e rfl)]; assumption) | trivial) (first | ((refine step_two (w0 := w) (by rfl) _ _ (by rfl) v u (us.take k) (vs.take k) x wr.heap.size (by rfl) (by rfl) (by first | exact (HO1.out.alloc _).drew | exact ((HO1.out.alloc _).alloc _).drew | exact HO1.out.alloc _ | exact (HO1.out.alloc _).alloc _ | exact HO1.out.drew.alloc _ | exact (HO1.out.drew.alloc _).alloc _ | exact HO1.out) (by first | exact (HO2.out.alloc _).drew | exact ((HO2.out.alloc _).alloc _).drew | exact HO2.out.alloc _ | exact (HO2.out.alloc _).alloc _ | exact HO2.out.drew.alloc _ | exact (HO2.out.drew.alloc _).alloc _ | exact HO2.out) A12.out (by first | exact (HB.out.alloc hzr _).drew | exact ((HB.out.alloc hzr _).alloc (by simp; omega) _).drew | exact HB.out.drew.alloc hzr _ | exact (HB.out.drew.alloc hzr _).alloc (by simp; omega) _) (by simp [go_sem, wx, wn]) (by omega) ?_; intro v5 w5 k1 k2 k3 k4 k5 k6)) | ((refine step_two (w0 := w) (by rfl) _ _ (by rfl) v u (us.take k) (vs.take k) x (wr.heap.size + 1) (by rfl) (by rfl) (by first | exact (HO1.out.alloc _).drew | exact ((HO1.out.alloc _).alloc _).drew | exact HO1.out.alloc _ | exact (HO1.out.alloc _).alloc _ | exact HO1.out.drew.alloc _ | exact (HO1.out.drew.alloc _).alloc _ | exact HO1.out) (by first | exact (HO2.out.alloc _).drew | exact ((HO2.out.alloc _).alloc _).drew | exact HO2.out.alloc _ | exact (HO2.out.alloc _).alloc _ | exact HO2.out.drew.alloc _ | exact (HO2.out.drew.alloc _).alloc _ | exact HO2.out) A12.out (by first | exact (HB.out.alloc hzr _).drew | exact ((HB.out.alloc hzr _).alloc (by simp; omega) _).drew | exact HB.out.drew.alloc hzr _ | exact (HB.out.drew.alloc hzr _).alloc (by simp; omega) _) (by simp [go_sem, wx, wn]) (by omega) ?_; intro v5 w5 k1 k2 k3 k4 k5 k6)) | ((refine step_two (w0 := w) (by rfl) _ _ (by rfl) u v5 (vs.take k) (us.take k ++ [x]) n w5.heap.size (by rfl) (by rfl) (by first | exact k2 | exact k2.alloc _ | exact (k2.alloc _).drew) (by first | exact k1 | exact k1.alloc _ | exact (k1.alloc _).drew) k3.symm (by first | exact k4 | exact k4.alloc (by have := k4.size; omega) _ | exact (k4.alloc (by have := k4.size; omega) _).drew) (by first | (simp [go_sem, wx, wn]; done) | (rw [k5 _ _ (by simp <;> omega) (by intro e; have := HO1.out.lt _ e; omega)]; simp [go_sem, wx, wn])) (by omega) ?_; intro u6 w6 j1 j2 j3 j4 j5 j6)) | ((refine step_two (w0 := w) (by rfl) _ _ (by rfl) u v5 (vs.take k) (us.take k ++ [x]) n wr.heap.size (by rfl) (by rfl) (by first | exact k2 | exact k2.alloc _ | exact (k2.alloc _).drew) (by first | exact k1 | exact k1.alloc _ | exact (k1.alloc _).drew) k3.symm (by first | exact k4 | exact k4.alloc (by have := k4.size; omega) _ | exact (k4.alloc (by have := k4.size; omega) _).drew) (by first | (simp [go_sem, wx, wn]; done) | (rw [k5 _ _ (by simp <;> omega) (by intro e; have := HO1.out.lt _ e; omega)]; simp [go_sem, wx, wn])) (by omega) ?_; intro u6 w6 j1 j2 j3 j4 j5 j6)) | ((refine step_two (w0 := w) (by rfl) _ _ (by rfl) u v5 (vs.take k) (us.take k ++ [x]) n (wr.heap.size + 1) (by rfl) (by rfl) (by first | exact k2 | exact k2.alloc _ | exact (k2.alloc _).drew) (by first | exact k1 | exact k1.alloc _ | exact (k1.alloc _).drew) k3.symm (by first | exact k4 | exact k4.alloc (by have := k4.size; omega) _ | exact (k4.alloc (by have := k4.size; omega) _).drew) (by first | (simp [go_sem, wx, wn]; done) | (rw [k5 _ _ (by simp <;> omega) (by intro e; have := HO1.out.lt _ e; omega)]; simp [go_sem, wx, wn])) (by omega) ?_; intro u6 w6 j1 j2 j3 j4 j5 j6)))
        all_goals
          go_simp
          go_wp2_with fail
          go_meet
          exact ⟨j2, j1, j3.symm, j4⟩
      case rest =>
        obtain ⟨k1, k2, k3, k4⟩ := hcut
        have b1 := (k4.cell (p := ⟨bb, ob + k, none⟩) hbb).trans ((HB.out.cell (p := ⟨bb, ob + k, none⟩) hbb).symm.trans b0)
        have hbb3 : bb < wc.heap.size := by have := k4.size; omega
        have K1 := Lib.hid k1
        have K2 := Lib.hid k2
        have K3 := Lib.hid k3
        have K4 := Lib.hid k4
        clear k1 k2 k3 k4
        by_cases hkp : k < p
        · have d1 : decide (k < p) = true := by simpa using hkp
          have g1 := Lib.hid (EE1.out hkp)
          have g3 := Lib.hid (EE3.out hkp)
          go_wp2_with fail
          go_roundw
          case rel => exact ⟨k + 1, by omega, by go_num, by rw [g3.out, ← g1.out], by rw [g3.out, T4.out, g1.out]; congr 1; omega, by rw [T1.out]; exact K1.out, by rw [T2.out]; exact K2.out, K3.out, K4.out⟩
          case measure => simp [intOf]; omega
        · have d1 : decide (k < p) = false := by simpa using hkp
          have g2 := Lib.hid (EE2.out hkp)
          go_wp2_with fail
          go_roundw
          case rel => exact ⟨k + 1, by omega, by go_num, by rw [g2.out], by rw [g2.out, T4.out]; congr 1; omega, by rw [T1.out]; exact K1.out, by rw [T2.out]; exact K2.out, K3.out, K4.out⟩
          case measure => simp [intOf]; omega
    · obtain rfl : k = us.length := by omega
      rw [List.take_length] at ho1
      rw [Nat.min_eq_right hpl, List.take_of_length_le (show (us.zip vs).length ≤ us.length by simp; omega), ← zip_take_len us vs]
      obtain ⟨ws, hws⟩ : ∃ l, l = vs.take us.length := ⟨_, rfl⟩
      have hsm := HSM.out
      rw [← hws] at ho2 hsm
      rw [← hws]
      have HLW : Hid (ws.length = us.length) := Lib.hid hsm.2.2.1.symm
      obtain ⟨⟨rn, rd⟩, ⟨an, ad⟩, ⟨bn, bd⟩, S1, S2, S, m1, m2, m3, m4, m5, m6, m7, ir, ia, ib, is1, is2, w0, w1, w2⟩ := parts_law hsm p
      obtain ⟨one, hone⟩ : ∃ x, x = sW ((us.zip ws).take p) := ⟨_, rfl⟩
      obtain ⟨tot, htot⟩ : ∃ x, x = sW (us.zip ws) := ⟨_, rfl⟩
      rw [← hone] at m4 m5 w0 w1
      rw [← htot] at m5 m7 w1 w2
      rw [← hone, ← htot]
      obtain ⟨Av, cv, rfl, _, _⟩ := ho1.shape
      obtain ⟨Aw, cw, rfl, _, _⟩ := ho2.shape
      obtain ⟨hc1, hc2⟩ := own_capI ho1
      obtain ⟨hd1, hd2⟩ := own_capI ho2
      unfold maxLen at hc2 hd2
      have R1 := Lib.hid (ho1.reads intE_len)
      have R2 := Lib.hid (ho2.reads intE_len)
      have M1 := Lib.hid m1
      have M2 := Lib.hid m2
      have M3 := Lib.hid m3
      have M4 := Lib.hid m4
      have M5 := Lib.hid m5
      have M6 := Lib.hid m6
      have M7 := Lib.hid m7
      have IR := Lib.hid ir
      have IA := Lib.hid ia
      have IB := Lib.hid ib
      have IS1 := Lib.hid is1
      have IS2 := Lib.hid is2
      have HB := Lib.hid hB
      obtain ⟨ii, hii, hsz⟩ := Option.map_eq_some_iff.1 (show (Try.prog.info? 3).map (·.size) = some 1 by kernel_rfl)
      have hlu : ws.length ≤ 40 := by have := HLW.out; omega
      have hpw : p ≤ ws.length := by have := HLW.out; omega
      clear ho1 ho2 a12 m1 m2 m3 m4 m5 m6 m7 ir ia ib is1 is2 hone htot hws hsm hB
      go_wp2_with fail
      refine (Mean_any us ws Av Aw cv cw _ R1.out R2.out (by omega)).mono ?_
      rw [M1.out]
      simp only [Ra.v]
      rintro e w2 ⟨rfl, hb2⟩
      have G2 := HB.out.trans (hb2.mono hzr)
      have K2 := (hb2.alloc hb2.size (.cells #[.int .i64 rn, .int .i64 rd] 23))
      have hs1 : ∀ W, (Instr.slice 34 (.slice Av us.length cv) none (some (.int .i64 (p : Int))) none).run Try.prog W = .ok (.slice Av p cv) W := fun W => run_slice_to Try.underlying34 hii Av us.length cv .i64 p (by omega) (by omega) W
      have hs2 : ∀ W, (Instr.slice 34 (.slice Aw ws.length cw) none (some (.int .i64 (p : Int))) none).run Try.prog W = .ok (.slice Aw p cw) W := fun W => run_slice_to Try.underlying34 hii Aw ws.length cw .i64 p (by omega) (by omega) W
      go_upto_region 17 with fail
      refine abs_wp ?_
      intro W3 hW3
      have KW : Below wr.heap.size wr W3 := by rw [hW3]; exact K2
      have Kr : Below (w2.heap.size + 1) (w2.alloc (.cells #[.int .i64 rn, .int .i64 rd] 23)) W3 := by rw [hW3]; exact Below.refl _ _
      have zW : w2.heap.size + 1 ≤ W3.heap.size := by rw [hW3]; simp
      clear hW3 K2 G2
      have hlt1 : (us.take p).length = p := by simp; omega
      have hlt2' : (ws.take p).length = p := by simp; omega
      have hMa : ∀ W, Below wr.heap.size wr W → Calls Try.prog 22 #[.slice Av p cv, .slice Aw p cw] W fun e W' => e = .returned (.tuple #[.agg #[.int .i64 an, .int .i64 ad], .int .i64 0]) ∧ Below W.heap.size W W' := fun W h => by
        have := Mean_any (us.take p) (ws.take p) Av Aw cv cw W ((R1.out.take.below h).more h.size) ((R2.out.take.below h).more h.size) (by rw [hlt1]; omega)
        rw [M2.out, hlt1, hlt2'] at this
        exact this
      have HMA := Lib.hid hMa
      have hsl := hs1
      clear hMa hlt1 hlt2'
      go_cut [16, 17] (fun s t wx => Box W3.heap.size s an ad wx ∧ t = .int .i64 0 ∧ Below W3.heap.size W3 wx)
      case first =>
        go_region_held3 (fun _ => True) (trivial) ((go_at_call 22; refine Calls.mono (HMA.out _ (by first | exact KW.drew | exact KW | exact (KW.alloc KW.size _).drew | exact KW.alloc KW.size _)) ?_; rintro e w4 ⟨rfl, hb4⟩; try (have hq := box_after hb4; obtain ⟨l0, l1, lf0, lf1, lz⟩ := hq)))
        all_goals
          go_simp
          go_wp2_with fail
          go_meet
          first | exact ⟨(leafA hb4).1, rfl, (leafA hb4).2⟩ | exact ⟨(leafB hb4).1, rfl, (leafB hb4).2⟩
      case rest =>
        obtain ⟨w5, hwc⟩ : ∃ x, x = wc := ⟨_, rfl⟩
        subst hwc
        obtain ⟨⟨ga, rfl, a0, a1, ga0, ga1⟩, rfl, hb5⟩ := hcut
        have KW5 := KW.trans (hb5.mono KW.size)
        have Kr5 := Kr.trans (hb5.mono zW)
        have z5 := hb5.size
        clear KW Kr hs1 hs2 hsl
        have hs3 : ∀ W, (Instr.slice 34 (.slice Av us.length cv) (some (.int .i64 (p : Int))) none none).run Try.prog W = .ok (.slice (if cv = p then Av else Av.map (·.add (p * 1))) (us.length - p) (cv - p)) W := fun W => by
          have := run_slice_from Try.underlying34 hii Av us.length cv .i64 p (by omega) (by omega) W
          rw [hsz] at this
          simpa using this
        have hs4 : ∀ W, (Instr.slice 34 (.slice Aw ws.length cw) (some (.int .i64 (p : Int))) none none).run Try.prog W = .ok (.slice (if cw = p then Aw else Aw.map (·.add (p * 1))) (ws.length - p) (cw - p)) W := fun W => by
          have := run_slice_from Try.underlying34 hii Aw ws.length cw .i64 p (by omega) (by omega) W
          rw [hsz] at this
          simpa using this
        have hMb : ∀ W, Below wr.heap.size wr W → Calls Try.prog 22 #[.slice (if cv = p then Av else Av.map (·.add (p * 1))) (us.length - p) (cv - p), .slice (if cw = p then Aw else Aw.map (·.add (p * 1))) (ws.length - p) (cw - p)] W fun e W' => e = .returned (.tuple #[.agg #[.int .i64 bn, .int .i64 bd], .int .i64 0]) ∧ Below W.heap.size W W' := fun W h => by
          have := Mean_any (us.drop p) (ws.drop p) (if cv = p then Av else Av.map (·.add (p * 1))) (if cw = p then Aw else Aw.map (·.add (p * 1))) (cv - p) (cw - p) W (((R1.out.drop hpl hc1).below h).more h.size) (((R2.out.drop hpw hd1).below h).more h.size) (by simp; omega)
          rw [M3.out, List.length_drop, List.length_drop] at this
          exact this
        obtain ⟨Ad, hAd⟩ : ∃ X, X = (if cv = p then Av else Av.map (·.add (p * 1))) := ⟨_, rfl⟩
        obtain ⟨Bd, hBd⟩ : ∃ X, X = (if cw = p then Aw else Aw.map (·.add (p * 1))) := ⟨_, rfl⟩
        rw [← hAd] at hs3 hMb
        rw [← hBd] at hs4 hMb
        have HMB := Lib.hid hMb
        clear hMb hAd hBd
        go_upto_region 18 with fail
        go_cut [18, 19] (fun s t wx => Box w5.heap.size s bn bd wx ∧ t = .int .i64 0 ∧ Below w5.heap.size w5 wx)
        case first =>
          go_region_held3 (fun _ => True) (trivial) ((go_at_call 22; refine Calls.mono (HMB.out _ (by first | exact KW5.drew | exact KW5 | exact (KW5.alloc KW5.size _).drew | exact KW5.alloc KW5.size _)) ?_; rintro e w4 ⟨rfl, hb4⟩; try (have hq := box_after hb4; obtain ⟨l0, l1, lf0, lf1, lz⟩ := hq)))
          all_goals
            go_simp
            go_wp2_with fail
            go_meet
            first | exact ⟨(leafA hb4).1, rfl, (leafA hb4).2⟩ | exact ⟨(leafB hb4).1, rfl, (leafB hb4).2⟩
        case rest =>
          obtain ⟨w6, hwc⟩ : ∃ x, x = wc := ⟨_, rfl⟩
          subst hwc
          obtain ⟨⟨gb, rfl, b0, b1, gb0, gb1⟩, rfl, hb6⟩ := hcut
          have KW6 := KW5.trans (hb6.mono KW5.size)
          have Kr6 := Kr5.trans (hb6.mono (by omega))
          have z6 := hb6.size
          replace a0 := (hb6.cell (p := ⟨ga, 0, none⟩) ga1).trans a0
          replace a1 := (hb6.cell (p := ⟨ga, 1, none⟩) ga1).trans a1
          replace ga1 : ga < w6.heap.size := by omega
          have I1 : I64 1 := I64_of (by decide) (by decide)
          have htt : one + (tot - one) = tot := by omega
          clear hs3 hs4 KW5 Kr5 hb5 hb6
          go_wp2_with fail
          refine Calls.mono (Mul_any ⟨an, ad⟩ ⟨one, 1⟩ IA.out ⟨I64_of (x := one) (by omega) (by omega), I1⟩ _) ?_
          rw [M4.out]
          simp only [Ra.v]
          rintro e w7 ⟨rfl, hb7⟩
          have KW7 := KW6.trans (hb7.mono KW6.size)
          have Kr7 := Kr6.trans (hb7.mono (by omega))
          have z7 := hb7.size
          replace b0 := (hb7.cell (p := ⟨gb, 0, none⟩) gb1).trans b0
          replace b1 := (hb7.cell (p := ⟨gb, 1, none⟩) gb1).trans b1
          replace gb1 : gb < w7.heap.size := by omega
          clear hb7 KW6 Kr6 a0 a1 ga0 ga1
          go_wp2_with fail
          refine Calls.mono (Mul_any ⟨bn, bd⟩ ⟨tot - one, 1⟩ IB.out ⟨I64_of (x := tot - one) (by omega) (by omega), I1⟩ _) ?_
          rw [M5.out]
          simp only [Ra.v]
          rintro e w8 ⟨rfl, hb8⟩
          have KW8 := (KW7.alloc KW7.size (.cells #[.int .i64 S1, .int .i64 1] 23)).trans (hb8.mono (by have := KW7.size; simp; omega))
          have Kr8 := (Kr7.alloc (by omega) (.cells #[.int .i64 S1, .int .i64 1] 23)).trans (hb8.mono (by simp; omega))
          have Kx8 := hb8.mono (B' := w7.heap.size + 1) (by simp)
          have z8 : w7.heap.size + 1 ≤ w8.heap.size := by have := hb8.size; simpa using this
          obtain ⟨x0, x1, hxs⟩ := one_box (a := ⟨S1, 1⟩) Kx8
          clear hb8 KW7 Kr7 b0 b1 gb0 gb1
          go_wp2_with fail
          refine Calls.mono (Add_any ⟨S1, 1⟩ ⟨S2, 1⟩ ⟨IS1.out, I1⟩ ⟨IS2.out, I1⟩ _) ?_
          rw [M6.out]
          simp only [Ra.v]
          rintro e w9 ⟨rfl, hb9⟩
          have KW9 := (KW8.alloc KW8.size (.cells #[.int .i64 S2, .int .i64 1] 23)).trans (hb9.mono (by have := KW8.size; simp; omega))
          have Kr9 := (Kr8.alloc (by omega) (.cells #[.int .i64 S2, .int .i64 1] 23)).trans (hb9.mono (by simp; omega))
          have z9 : w8.heap.size + 1 ≤ w9.heap.size := by have := hb9.size; simpa using this
          obtain ⟨r0, r1, hrs⟩ := one_box (a := ⟨rn, rd⟩) Kr9
          clear hb9 KW8 Kr8 x0 x1 hxs Kx8
          go_wp2_with fail
          refine Calls.mono (Mul_any ⟨rn, rd⟩ ⟨tot, 1⟩ IR.out ⟨I64_of (x := tot) (by omega) (by omega), I1⟩ _) ?_
          rw [M7.out]
          simp only [Ra.v]
          rintro e w10 ⟨rfl, hb10⟩
          have KW10 := (KW9.alloc KW9.size (.cells #[.int .i64 S, .int .i64 1] 23)).trans (hb10.mono (by have := KW9.size; simp; omega))
          have Ks := hb10.mono (B' := w9.heap.size + 1) (by simp)
          obtain ⟨s0, s1, hss⟩ := one_box (a := ⟨S, 1⟩) Ks
          have PE := HB.out.trans (KW10.mono hzr)
          clear hb10 KW9 Kr9 KW10 Ks r0 r1 hrs
          go_wp2_with fail
          go_ret
          first | exact ⟨rfl, PE.alloc PE.size _⟩ | exact ⟨ret_bool (by simp), PE.alloc PE.size _⟩
end Go.Proofs.Ytaogcmgbmomilaa
