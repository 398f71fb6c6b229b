/- TopDegree, what its proof leans on: the texts TopI, TopJ. -/
import Derived.Test.YtalmbigebjbaoaaGreatDoorM26
import Derived.Test.YtalmbigebjbaoaaGreatDoorM19
import Derived.Test.YtalmbigebjbaoaaGreatDoorM28
namespace Go.Proofs.YtalmbigebjbaoaaGreatDoor
open Go.RowKit Go.Shelf
set_option linter.unusedSimpArgs false
set_option linter.unusedVariables false
attribute [local go_sem] Oper.semAt_some
mutual
def RT.parts : RT → Int → List (Int × RT)
 | .mk op co nm n d ks s, k => (k, .mk op co nm n d ks s) :: RT.partsL ks (k + 1)
def RT.partsL : List RT → Int → List (Int × RT)
 | [], _ => []
 | r :: l, k => RT.parts r k ++ RT.partsL l k
end
theorem partsL_nil (k : Int) : RT.partsL [] k = [] := by unfold RT.partsL; rfl
theorem partsL_cons (r : RT) (l : List RT) (k : Int) : RT.partsL (r :: l) k = r.parts k ++ RT.partsL l k := by rw [RT.partsL]
theorem partsL_app (k : Int) : ∀ (l m : List RT), RT.partsL (l ++ m) k = RT.partsL l k ++ RT.partsL m k
 | [], m => by rw [partsL_nil]; rfl
 | r :: l, m => by rw [List.cons_append, partsL_cons, partsL_cons, partsL_app k l m, List.append_assoc]
theorem partsL_at {ks : List RT} {j : Nat} {r : RT} (h : ks[j]? = some r) (k : Int) : RT.partsL (ks.take (j + 1)) k = RT.partsL (ks.take j) k ++ r.parts k := by
 have hl := (List.getElem?_eq_some_iff.1 h).1
 rw [List.take_succ_eq_append_getElem hl, (List.getElem?_eq_some_iff.1 h).2, partsL_app, partsL_cons, partsL_nil, List.append_nil]
theorem partsL_split {ks : List RT} {j : Nat} {r : RT} (h : ks[j]? = some r) (k : Int) : RT.partsL ks k = RT.partsL (ks.take j) k ++ (r.parts k ++ RT.partsL (ks.drop (j + 1)) k) := by
 rw [← List.append_assoc, ← partsL_at h, ← partsL_app, List.take_append_drop]
def prE (x : Int × RT) : Array Value := #[.int .i64 x.1, x.2.v]
theorem keep_of_keep2 {B : Nat} {free : Nat → Prop} {X Y : World} (h : Keep2 B free X Y) (hB : B ≤ X.heap.size) : Keep B free X Y :=
 ⟨h.1, fun b hb hf => h.2 b (by omega) hf (by omega)⟩
inductive RT.Low (w : World) (B : Nat) : RT → Prop
 | mk {op course : Int} {nm : ByteArray} {n d : Int} {kids : List RT} {s : Sl} : s.n = kids.length → kids.length ≤ 9223372036854775807 → Reads w B s.a 6 RT.enc kids → (∀ k ∈ kids, RT.Low w B k) → RT.Low w B (.mk op course nm n d kids s)
theorem RT.Ok.low {w : World} {P : Nat → Prop} {r : RT} (h : RT.Ok w P r) : RT.Low w w.heap.size r := by
 induction h with
 | mk hi hs _ ih => exact .mk hs.1 (by rw [← hs.1]; exact Nat.le_trans hs.2.1 hs.2.2.1) hs.reads ih
theorem RT.Low.same {w W : World} {B : Nat} {r : RT} (h : RT.Low w B r) (hs : ∀ b, b < B → W.heap[b]? = w.heap[b]?) : RT.Low W B r := by
 induction h with
 | mk h1 h2 h3 _ ih => exact .mk h1 h2 (reads_same h3 hs) ih
theorem parts_any (r : RT) (w : World) :
 Calls Tryz.prog 174 #[r.v] w fun e w' =>
  e = .returned (.func (.func 178) #[] #[.pointer (some ⟨w.heap.size + 1, 0, none⟩), .pointer (some ⟨w.heap.size, 0, none⟩)]) ∧
  w' = (w.alloc (.cells r.enc.toArray 121)).alloc (.cells #[.func (.func 177) #[] #[.pointer (some ⟨w.heap.size + 1, 0, none⟩)]] 265) := by
 obtain ⟨op, co, nm, n, d, ks, s⟩ := r
 simp only [RT.v, RT.enc]
 go_enter Tryz.func174, Tryz.ntmps174
 go_wp2_with fail
 go_ret
 exact ⟨rfl, rfl⟩
set_option maxRecDepth 100000 in
set_option maxHeartbeats 4000000 in
theorem walk_any {w : World} {free : Nat → Prop} (n n₀ l bw : Nat) (hn₀ : n₀ ≤ w.heap.size) (hfree : ∀ b, free b → n₀ ≤ b ∧ b < w.heap.size ∧ b ≠ bw) (hbw : bw < w.heap.size)
 (hcw : w.cell? ⟨bw, 0, none⟩ = some (.func (.func 177) #[] #[.pointer (some ⟨bw, 0, none⟩)])) (J Jx : List (Int × RT) → World → Prop) (hJ : Steady (fun _ => False) J) (All : List (Int × RT)) (hAll : All.length ≤ 100000)
 (HY : ∀ pre x W1, J pre W1 → (∃ t, pre ++ [x] ++ t = All) → YieldAt Fence.wide (n - 1) Tryz.prog l (prE x) W1 fun e W' => (e = .returned (.bool true) ∧ J (pre ++ [x]) W' ∧ Keep2 w.heap.size free W1 W') ∨ (e = .returned (.bool false) ∧ Jx (pre ++ [x]) W'))
 {r : RT} (hr : RT.Low w n₀ r) : ∀ (k : Int) (pre t : List (Int × RT)) (W : World), 0 ≤ k → k ≤ pre.length + 1 → pre ++ (r.parts k ++ t) = All → J pre W → Keep w.heap.size free w W → w.heap.size + 2 ≤ W.heap.size →
  Calls Tryz.prog 177 #[r.v, .int .i64 k, .func (.yield l) #[] #[], .pointer (some ⟨bw, 0, none⟩)] W fun e W' =>
   (e = .returned (.bool true) ∧ J (pre ++ r.parts k) W' ∧ Keep w.heap.size free w W' ∧ w.heap.size + 2 ≤ W'.heap.size) ∨ (e = .returned (.bool false) ∧ ∃ pre', Jx pre' W') := by
 have HYY := Lib.hid HY
 have HFR := Lib.hid hfree
 have HJ := Lib.hid hJ
 have HCW := Lib.hid hcw
 clear HY hJ hcw
 induction hr with
 | mk hln hmax hs hks ih =>
   rename_i op co nm nn d ks s
   obtain ⟨A, ln, c⟩ := s
   simp only at hln hs
   subst hln
   have HS := Lib.hid hs
   have IH := Lib.hid ih
   clear hs ih hks
   intro k pre t W hk0 hk1 hall hj hkp hz
   have HALL := Lib.hid hall
   have HJ0 := Lib.hid hj
   have HKP := Lib.hid hkp
   have hlen : pre.length + 1 ≤ 100000 := by
    have h := congrArg List.length hall
    rw [RT.parts] at h
    simp only [List.length_append, List.length_cons] at h
    omega
   have hwr : wrap64 (k + 1) = k + 1 := IntWalk.wrap64_in _ ⟨by omega, by omega⟩
   clear hall hj hkp hfree
   simp only [RT.v]
   obtain ⟨x, hx⟩ : ∃ x : Int × RT, x = (k, .mk op co nm nn d ks ⟨A, ks.length, c⟩) := ⟨_, rfl⟩
   have HP : Hid (RT.parts (.mk op co nm nn d ks ⟨A, ks.length, c⟩) k = x :: RT.partsL ks (k + 1)) := Lib.hid (by rw [hx, RT.parts])
   have hB : Below W.heap.size W (W.alloc (.cells #[.int .i64 op, .int .i64 co, .string nm, .int .i64 nn, .int .i64 d, .slice A ks.length c] 121)) := (Below.refl _ _).alloc (Nat.le_refl _) _
   have HB := Lib.hid hB
   obtain ⟨fn, tmps, assign, body, hy, hR⟩ := HYY.out pre x _ (HJ.out.1 _ _ _ HJ0.out hB) ⟨RT.partsL ks (k + 1) ++ t, by
    have h := HALL.out
    rw [HP.out] at h
    simpa using h⟩
   rw [hx] at hy
   simp only [prE, RT.v] at hy
   clear hB hx
   go_enter Tryz.func177, Tryz.ntmps177
   refine (wpIn_wide (n := n)).1 ?_
   gi_wp2
   refine ⟨fun h => (by cases h), hR.mono ?_⟩
   rintro e W3 (⟨rfl, hJ3, hk3⟩ | ⟨rfl, hJx3⟩)
   case inr =>
    gi_wp2
    refine bodyPost_ret (results_tmp rfl _ _ _) rfl ?_
    exact .inr ⟨rfl, _, hJx3⟩
   have hz3 := hk3.1
   simp only [World.size_alloc] at hz3
   have q5 : W3.cell? ⟨W.heap.size, 5, none⟩ = some (.slice A ks.length c) := (hk3.cell (a := ⟨W.heap.size, 5, none⟩) (by show W.heap.size < _; simp) (fun h => by have := (HFR.out _ h).2.1; simp only at this; omega) (by show ¬ (_ ≤ W.heap.size ∧ W.heap.size < _ + 2); omega)).trans (by simp [go_sem])
   have HK3 : Hid (Keep w.heap.size free w W3) := Lib.hid ((HKP.out.alloc (by omega) _).trans (keep_of_keep2 hk3 (by simp; omega)))
   have HJ3 : Hid (J (pre ++ (x :: RT.partsL (ks.take 0) (k + 1))) W3) := Lib.hid (by simpa [partsL_nil] using hJ3)
   clear hk3 hJ3 hR hy
   gi_wp2
   refine wpIn_wide.2 ?_
   go_wp2_with fail
   go_loopw [18] (fun i wr => ∃ j : Nat, j ≤ ks.length ∧ i = .int .i64 j ∧ J (pre ++ (x :: RT.partsL (ks.take j) (k + 1))) wr ∧ Keep w.heap.size free w wr ∧ w.heap.size + 2 ≤ wr.heap.size)
    (fun i _ => ks.length - (intOf i).toNat)
   case atStart => exact ⟨0, Nat.zero_le _, rfl, HJ3.out, HK3.out, by omega⟩
   case round =>
    obtain ⟨j, hjl, rfl, hjr, hkr, hzr⟩ := hrel
    have HJr := Lib.hid hjr
    have HKr := Lib.hid hkr
    clear hjr hkr q5
    have HSr := Lib.hid (reads_same HS.out (fun b hb => HKr.out.2 b (by omega) (fun hf => by have := (HFR.out b hf).1; omega)))
    by_cases hlt : j < ks.length
    ·obtain ⟨ba, oa, y, rfl, hba, hxk, hca⟩ := HSr.out.at_ hlt
     have hB : Below wr.heap.size wr (wr.alloc (.cells y.enc.toArray 121)) := (Below.refl _ _).alloc (Nat.le_refl _) _
     have HC := Lib.hid (IH.out y (List.mem_of_getElem? hxk) (k + 1) (pre ++ (x :: RT.partsL (ks.take j) (k + 1))) (RT.partsL (ks.drop (j + 1)) (k + 1) ++ t) (wr.alloc (.cells y.enc.toArray 121)) (by omega) (by simp; omega) (by
      have h := HALL.out
      rw [HP.out, partsL_split hxk] at h
      rw [← h]
      simp) (HJ.out.1 _ _ _ HJr.out hB) (HKr.out.alloc (by omega) _) (by simp; omega))
     have HXK := Lib.hid (partsL_at hxk (k + 1))
     have hcw := (HKr.out.cell (a := ⟨bw, 0, none⟩) hbw (fun h => (HFR.out _ h).2.2 rfl)).trans HCW.out
     have hbr : bw < wr.heap.size := by omega
     obtain ⟨o1, g1, m1, n1, d1, ks1, s1⟩ := y
     simp only [RT.v, RT.enc, RT.s] at HC hca
     have a0 := hca 0 _ rfl
     have a1 := hca 1 _ rfl
     have a2 := hca 2 _ rfl
     have a3 := hca 3 _ rfl
     have a4 := hca 4 _ rfl
     have a5 := hca 5 _ rfl
     simp only [Nat.add_zero] at a0
     clear hca hxk hB
     go_wp2_with fail
     refine HC.out.mono ?_
     rintro e W5 (⟨rfl, hJ5, hk5, hz5⟩ | ⟨rfl, pre', hJx5⟩)
     ·have HJ5 := Lib.hid hJ5
      have HK5 := Lib.hid hk5
      clear hJ5 hk5
      go_wp2_with fail
      go_roundw
      case rel => exact ⟨j + 1, by omega, by go_num, by rw [HXK.out]; simpa using HJ5.out, HK5.out, by omega⟩
      case measure => simp [intOf]; omega
     ·go_wp2_with fail
      go_ret
      exact .inr ⟨rfl, _, hJx5⟩
    ·obtain rfl : j = ks.length := by omega
     go_wp2_with fail
     gi_wp2
     refine bodyPost_ret (results_tmp rfl _ _ _) rfl ?_
     exact .inl ⟨rfl, by rw [HP.out]; simpa using HJr.out, HKr.out, hzr⟩
set_option maxRecDepth 100000 in
set_option maxHeartbeats 4000000 in
theorem parts_iter (w : World) (n n₀ : Nat) (free : Nat → Prop) (bw br : Nat) (r : RT) (hr : RT.Low w n₀ r) (hall : (r.parts 1).length ≤ 100000) (hn₀ : n₀ ≤ w.heap.size) (hfree : ∀ b, free b → n₀ ≤ b ∧ b < w.heap.size ∧ b ≠ bw) (hbw : bw < w.heap.size) (hbr : br < w.heap.size)
 (hcw : w.cell? ⟨bw, 0, none⟩ = some (.func (.func 177) #[] #[.pointer (some ⟨bw, 0, none⟩)])) (hcr : Bx w br r.enc) :
 Iter2 Fence.wide n Tryz.prog 178 #[.pointer (some ⟨bw, 0, none⟩), .pointer (some ⟨br, 0, none⟩)] prE (fun _ => False) (Keep2 w.heap.size free)
  (fun ys => ys = r.parts 1) (fun _ => True) (fun ys => ∃ t, ys ++ t = r.parts 1) w := by
 intro l J Jx W hW hW2 hJ hJx hY h0
 refine callsIn_wide.2 ?_
 simp only [List.append_toArray, List.cons_append, List.nil_append]
 have HC := Lib.hid (walk_any (w := w) (free := free) n n₀ l bw hn₀ hfree hbw hcw J Jx hJ (r.parts 1) hall hY hr 1 [] [] W (by omega) (by simp) (by simp) h0 ⟨hW.size, fun b hb _ => hW.block b hb⟩ hW2)
 have q := (hW.cell (p := ⟨bw, 0, none⟩) hbw).trans hcw
 have hz := hW.size
 have HR := Lib.hid (fun i v (e : r.enc[i]? = some v) => (hW.cell (p := ⟨br, i, none⟩) hbr).trans (hcr.1 i v e))
 have hbw2 : bw < W.heap.size := by omega
 have hbr2 : br < W.heap.size := by omega
 clear hr hall hfree hcw hcr hW hJ hJx hY h0
 obtain ⟨op, co, nm, nn, d, ks, s⟩ := r
 simp only [RT.v, RT.enc] at HC HR
 have p0 := HR.out 0 _ rfl
 have p1 := HR.out 1 _ rfl
 have p2 := HR.out 2 _ rfl
 have p3 := HR.out 3 _ rfl
 have p4 := HR.out 4 _ rfl
 have p5 := HR.out 5 _ rfl
 go_enter Tryz.func178, Tryz.ntmps178
 go_wp2_with fail
 refine HC.out.mono ?_
 rintro e W5 (⟨rfl, hJ5, hk5, hz5⟩ | ⟨rfl, pre', hJx5⟩)
 ·go_wp2_with fail
  go_end0
  exact ⟨⟨_, rfl⟩, .inl ⟨_, rfl, by simpa using hJ5⟩⟩
 ·go_wp2_with fail
  go_end0
  exact ⟨⟨_, rfl⟩, .inr ⟨_, trivial, hJx5⟩⟩
def ruleOk (x : Int × RT) : Bool := decide (x.1 ≤ 16) && formedF x.2
def ruleF (r : RT) : Bool := decide ((r.parts 1).length ≤ 200) && (r.parts 1).all ruleOk
theorem ruleF_long {r : RT} {pre t : List (Int × RT)} {x : Int × RT} (h : pre ++ [x] ++ t = r.parts 1) (hl : 200 ≤ pre.length) : ruleF r = false := by
 unfold ruleF
 rw [← h, decide_eq_false (by simp; omega)]
 rfl
theorem ruleF_bad {r : RT} {pre t : List (Int × RT)} {x : Int × RT} (h : pre ++ [x] ++ t = r.parts 1) (hx : ruleOk x = false) : ruleF r = false := by
 unfold ruleF
 rw [← h]
 simp [hx]
theorem ruleF_good {r : RT} (hl : (r.parts 1).length ≤ 200) (hx : ∀ x ∈ r.parts 1, ruleOk x = true) : ruleF r = true := by
 unfold ruleF
 rw [decide_eq_true hl, List.all_eq_true.2 hx]
 rfl
theorem RT.v_eq (r : RT) : r.v = .agg #[.int .i64 r.op, .int .i64 r.course, .string r.nm, .int .i64 r.n, .int .i64 r.d, .slice r.s.a r.s.n r.s.c] := by cases r; rfl
theorem RT.enc_eq (r : RT) : r.enc = [.int .i64 r.op, .int .i64 r.course, .string r.nm, .int .i64 r.n, .int .i64 r.d, .slice r.s.a r.s.n r.s.c] := by cases r; rfl
theorem mem_partsL {x : Int × RT} {k : Int} : ∀ {ks : List RT}, x ∈ RT.partsL ks k → ∃ y ∈ ks, x ∈ y.parts k
 | [], h => by rw [partsL_nil] at h; simp at h
 | r :: l, h => by
   rw [partsL_cons] at h
   rcases List.mem_append.1 h with h | h
   ·exact ⟨r, List.mem_cons_self .., h⟩
   ·obtain ⟨y, hy, hx⟩ := mem_partsL h
    exact ⟨y, List.mem_cons_of_mem _ hy, hx⟩
theorem parts_ok {w : World} {P : Nat → Prop} {r : RT} (h : RT.Ok w P r) : ∀ (k : Int) (x : Int × RT), x ∈ r.parts k → RT.Ok w P x.2 := by
 induction h with
 | mk hi hs hks ih =>
   intro k x hx
   rw [RT.parts] at hx
   rcases List.mem_cons.1 hx with rfl | hx
   ·exact .mk hi hs hks
   ·obtain ⟨y, hy, hx⟩ := mem_partsL hx
    exact ih y hy _ x hx
theorem put1 {W : World} {b : Nat} {u : Value} {T : TypeId} (v : Value) (h : W.heap[b]? = some (.cells #[u] T (0, 0))) : (W.setCell ⟨b, 0, none⟩ v).heap[b]? = some (.cells #[v] T (0, 0)) := by
 simp [World.setCell, Array.getElem?_modify, h]
theorem far1 {W : World} {b b' : Nat} (v : Value) (h : b' ≠ b) : (W.setCell ⟨b, 0, none⟩ v).heap[b']? = W.heap[b']? :=
 Below.heap_setCell _ _ _ _ (by first | exact h | exact h.symm)
structure RcI (w : World) (pre : List (Int × RT)) (W : World) : Prop where
 n : W.heap[w.heap.size + 2]? = some (.cells #[.int .i64 pre.length] 3 (0, 0))
 e : W.heap[w.heap.size + 1]? = some (.cells #[.int .i64 0] 37 (0, 0))
 len : pre.length ≤ 200
 ok : ∀ x ∈ pre, ruleOk x = true
 bw : Below w.heap.size w W
structure RcX (w : World) (r : RT) (c : Code) (W : World) : Prop where
 c : c = .ret
 e : W.heap[w.heap.size + 1]? = some (.cells #[.int .i64 120] 37 (0, 0))
 no : ruleF r = false
 bw : Below w.heap.size w W
theorem RcI.own {w : World} {B : Nat} (hB : w.heap.size + 3 ≤ B) : OwnFrom B (RcI w) := fun pre W W' row h hg hr => by
 obtain ⟨h1, h2, h3, h4, h5⟩ := h
 have k : ∀ b, b < w.heap.size + 3 → b < W.heap.size → W'.heap[b]? = W.heap[b]? := fun b hb hl => hg.block b hl (fun e => by have := (hr b e.symm).1; omega)
 have z : ∀ {b o}, W.heap[b]? = some o → b < W.heap.size := fun h => (Array.getElem?_eq_some_iff.1 h).1
 exact ⟨(k _ (by omega) (z h1)).trans h1, (k _ (by omega) (z h2)).trans h2, h3, h4, h5.grown hg h5.size (fun q e => by have := (hr q e).1; omega)⟩
theorem RcX.own {α : Type} {w : World} {r : RT} {c : Code} {B : Nat} (hB : w.heap.size + 3 ≤ B) : OwnFrom B (fun (_ : α) W => RcX w r c W) := fun pre W W' row h hg hr => by
 obtain ⟨h1, h2, h3, h5⟩ := h
 have k : ∀ b, b < w.heap.size + 3 → b < W.heap.size → W'.heap[b]? = W.heap[b]? := fun b hb hl => hg.block b hl (fun e => by have := (hr b e.symm).1; omega)
 have z : ∀ {b o}, W.heap[b]? = some o → b < W.heap.size := fun h => (Array.getElem?_eq_some_iff.1 h).1
 exact ⟨h1, (k _ (by omega) (z h2)).trans h2, h3, h5.grown hg h5.size (fun q e => by have := (hr q e).1; omega)⟩
theorem six_cells {W : World} {b : Nat} {x : RT} {T : TypeId} (h : W.heap[b]? = some (.cells x.enc.toArray T (0, 0))) :
 (∀ i v, x.enc[i]? = some v → W.cell? ⟨b, i, none⟩ = some v) ∧ b < W.heap.size :=
 ⟨fun i v e => by simp [World.cell?, h]; exact e, (Array.getElem?_eq_some_iff.1 h).1⟩
set_option maxRecDepth 100000 in
set_option maxHeartbeats 8000000 in
theorem ruCheck_any {P : Nat → Prop} (r : RT) (w : World) (hr : r.Ok w P) (hk : KindsAt w) (hall : (r.parts 1).length ≤ 100000) :
 Calls Tryz.prog 166 #[r.v] w fun e w' => e = .returned (.int .i64 (if ruleF r then 0 else 120)) ∧ Below w.heap.size w w' := by
 have HL := Lib.hid hr.low
 have HKA := Lib.hid hk
 have HOK := Lib.hid hr
 obtain ⟨E, hE⟩ : ∃ E : Int, E = if ruleF r then 0 else 120 := ⟨_, rfl⟩
 rw [← hE]
 have HE := Lib.hid hE
 clear hr hk hE
 have HP := Lib.hid (fun W => parts_any r W)
 simp only [RT.v_eq, RT.enc_eq] at HP ⊢
 refine (callsIn_wide (n := 6)).1 ?_
 refine callsIn_of_wp_marks Tryz.func166 rfl trivial ?_ rfl
 simp only [Tryz.ntmps166, List.size_toArray, List.length_cons, List.length_nil, Nat.reduceAdd, Nat.reduceSub, Array.replicate_succ, Array.replicate_zero, List.push_toArray, List.append_toArray, List.nil_append, List.cons_append]
 refine wpIn_wide.2 ?_
 go_wp2_with fail
 refine (HP.out _).mono ?_
 rintro e w3 ⟨rfl, hw3⟩
 go_wp2_with fail
 refine (wpIn_wide (n := 5)).1 ?_
 refine abs_world ?_
 intro W3 hW3
 have HB : Hid (Below w.heap.size w W3 ∧ W3.heap.size = w.heap.size + 5) := Lib.hid (by
  rw [hW3]
  exact ⟨(((((Below.refl _ w).alloc (Nat.le_refl _) _).alloc (by simp) _).alloc (by simp <;> omega) _).alloc (by simp <;> omega) _).alloc (by simp <;> omega) _, by simp⟩)
 have HC : Hid (W3.cell? ⟨w.heap.size + 4, 0, none⟩ = some (.func (.func 177) #[] #[.pointer (some ⟨w.heap.size + 4, 0, none⟩)])) := Lib.hid (by
  rw [hW3]
  simp [go_sem])
 have HX : Hid (Bx W3 (w.heap.size + 3) r.enc) := Lib.hid (by
  rw [hW3, RT.enc_eq]
  exact (Bx.at_ _ [.int .i64 r.op, .int .i64 r.course, .string r.nm, .int .i64 r.n, .int .i64 r.d, .slice r.s.a r.s.n r.s.c] _ (w.heap.size + 3) (by simp)).step ((Below.refl _ _).alloc (Nat.le_refl _) _))
 have HI : Hid (RcI w [] W3) := Lib.hid (by
  have o : ∀ {W : World} {b : Nat} {q r : Obj}, W.heap[b]? = some q → (W.alloc r).heap[b]? = some q := fun {W b q r} h => (Below.heap_alloc _ _ _ (Array.getElem?_eq_some_iff.1 h).1).trans h
  have e : ∀ (W : World) (q : Obj) (b : Nat), b = W.heap.size → (W.alloc q).heap[b]? = some q := fun W q b h => by subst h; exact World.alloc_heap_new _ _
  refine ⟨?_, ?_, by simp, by simp, HB.out.1⟩ <;> rw [hW3]
  ·exact o (o (e _ _ _ (by simp)))
  ·exact o (o (o (e _ _ _ (by simp)))))
 clear hW3 hw3
 have hz3 := HB.out.2
 have HLW := Lib.hid (HL.out.same (fun b hb => HB.out.1.block b hb))
 refine wpIn_seqB (α := Int × RT) rfl (by decide) (gf := 178) (lb := #[.pointer (some ⟨w.heap.size + 4, 0, none⟩), .pointer (some ⟨w.heap.size + 3, 0, none⟩)]) rfl trivial (enters_of Tryz.func178 (by kernel_rfl) rfl)
  (own := fun _ => False) (free := fun b => w.heap.size + 1 ≤ b ∧ b < w.heap.size + 3) (fun _ h => h.elim)
  (parts_iter W3 4 w.heap.size (fun b => w.heap.size + 1 ≤ b ∧ b < w.heap.size + 3) (w.heap.size + 4) (w.heap.size + 3) r HLW.out hall (by omega) (fun b h => by omega) (by omega) (by omega) HC.out HX.out)
  (fun _ => rfl) (RcI w) (fun c _ W => RcX w r c W) (RcI.own (by omega)) (fun c => RcX.own (by omega)) (fun _ _ _ _ _ h => h.elim) (fun _ _ _ _ _ _ h => h.elim) HI.out (fun x => x.2.enc.toArray) 121 ?G ?assign ?body ?done ?stop
 case assign =>
  intro l pre x W K hi hpr hz hK
  simp only [prE, RT.v_eq]
  gi_wp2
  simp only [RT.enc_eq] at hK
  obtain ⟨g, hg⟩ : ∃ g, g = W.heap.size := ⟨_, rfl⟩
  rw [← hg]
  exact hK g _ hg rfl
 case body =>
  rintro l' pre x g W hI hpr hz hgz hgc
  have HI2 := Lib.hid hI
  obtain ⟨t1, t2, t3, t4, t5⟩ := hI
  obtain ⟨s0, s1, s2⟩ := one_cell t1
  obtain ⟨m0, m1, m2⟩ := one_cell t2
  obtain ⟨ec, ez⟩ := six_cells hgc
  obtain ⟨pn, hpn⟩ : ∃ n : Int, n = pre.length := ⟨_, rfl⟩
  rw [← hpn] at s0
  have HPN := Lib.hid hpn
  have hp0 : 0 ≤ pn ∧ pn ≤ 200 := by omega
  have hwr : wrap64 (pn + 1) = pn + 1 := IntWalk.wrap64_in _ ⟨by omega, by omega⟩
  have HT1 := Lib.hid t1
  have HT2 := Lib.hid t2
  have HB5 := Lib.hid t5
  have HT4 := Lib.hid t4
  have HPR := Lib.hid hpr
  have HFM := Lib.hid (fun W' (hb : Below w.heap.size w W') (hy : RT.Ok W' P x.2) => ruFormed_any x.2 W' hy (HKA.out.step hb))
  simp only [RT.v_eq] at HFM
  simp only [RT.enc_eq] at ec
  have e0 := ec 0 _ rfl
  have e1 := ec 1 _ rfl
  have e2 := ec 2 _ rfl
  have e3 := ec 3 _ rfl
  have e4 := ec 4 _ rfl
  have e5 := ec 5 _ rfl
  have hkp : Keep2 W3.heap.size (fun b => w.heap.size + 1 ≤ b ∧ b < w.heap.size + 3) W W := Keep2.refl _ _ _
  have HKP := Lib.hid hkp
  clear t1 t2 t3 t4 t5 hpr hpn hkp ec
  have hgne : w.heap.size + 2 ≠ g ∧ w.heap.size + 1 ≠ g := by omega
  cases c1 : decide (200 < pn + 1)
  case true =>
   have HNO : Hid (ruleF r = false) := Lib.hid (by
    obtain ⟨t, ht⟩ := HPR.out
    have := of_decide_eq_true c1
    exact ruleF_long ht (by have := HPN.out; omega))
   gi_wp2
   refine ⟨trivial, ?_⟩
   gi_wp2
   exact ⟨(KeepsOthers.setCell _ _ _).trans (KeepsOthers.setCell _ _ _), ⟨rfl, put1 _ ((far1 _ (by omega)).trans HT2.out), HNO.out, (HB5.out.setCell (p := ⟨w.heap.size + 2, 0, none⟩) (by show w.heap.size ≤ w.heap.size + 2; omega) _).setCell (p := ⟨w.heap.size + 1, 0, none⟩) (by show w.heap.size ≤ w.heap.size + 1; omega) _⟩⟩
  cases c2 : decide (16 < x.1)
  case true =>
   have HNO : Hid (ruleF r = false) := Lib.hid (by
    obtain ⟨t, ht⟩ := HPR.out
    have := of_decide_eq_true c2
    exact ruleF_bad ht (by unfold ruleOk; rw [decide_eq_false (by omega)]; rfl))
   gi_wp2
   refine ⟨trivial, ?_⟩
   gi_wp2
   exact ⟨(KeepsOthers.setCell _ _ _).trans (KeepsOthers.setCell _ _ _), ⟨rfl, put1 _ ((far1 _ (by omega)).trans HT2.out), HNO.out, (HB5.out.setCell (p := ⟨w.heap.size + 2, 0, none⟩) (by show w.heap.size ≤ w.heap.size + 2; omega) _).setCell (p := ⟨w.heap.size + 1, 0, none⟩) (by show w.heap.size ≤ w.heap.size + 1; omega) _⟩⟩
  have HW1 : Hid (Below w.heap.size w (W.setCell ⟨w.heap.size + 1 + 1, 0, none⟩ (.int .i64 (pn + 1)))) := Lib.hid (HB5.out.setCell (p := ⟨w.heap.size + 2, 0, none⟩) (by show w.heap.size ≤ w.heap.size + 2; omega) _)
  have hC := HFM.out _ HW1.out ((parts_ok HOK.out 1 x (by obtain ⟨t, ht⟩ := HPR.out; rw [← ht]; simp)).step HW1.out)
  obtain ⟨f, hf⟩ : ∃ f, f = formedF x.2 := ⟨_, rfl⟩
  rw [← hf] at hC
  have HF := Lib.hid hf
  have HC2 := Lib.hid (of_decide_eq_false c2)
  clear hf
  gi_wp2
  refine ⟨trivial, (callsIn_round hC).mono ?_⟩
  rintro e W5 ⟨rfl, hb5⟩
  have hn5 := (hb5.block _ (by simp [World.setCell]; omega)).trans (put1 (.int .i64 (pn + 1)) HT1.out)
  have he5 := (hb5.block _ (by simp [World.setCell]; omega)).trans ((far1 (b := w.heap.size + 2) (.int .i64 (pn + 1)) (by omega)).trans HT2.out)
  have HN5 := Lib.hid hn5
  have HE5 := Lib.hid he5
  obtain ⟨m0, m1, m2⟩ := one_cell he5
  have HB7 : Hid (Below w.heap.size w W5) := Lib.hid (HW1.out.trans (hb5.mono HW1.out.size))
  have HK5 : Hid (KeepsOthers W W5 ∧ Keep2 W3.heap.size (fun b => w.heap.size + 1 ≤ b ∧ b < w.heap.size + 3) W W5) := Lib.hid ⟨(KeepsOthers.setCell _ _ _).trans (KeepsOthers.of_below hb5), (HKP.out.setCell (a := ⟨w.heap.size + 2, 0, none⟩) (by show _ ≤ w.heap.size + 2 ∧ w.heap.size + 2 < _; omega) _).below hb5⟩
  clear hb5 hn5 he5 e0 e1 e2 e3 e4 e5 hgc s0 s1 s2
  cases f
  ·have HNO : Hid (ruleF r = false) := Lib.hid (by
    obtain ⟨t, ht⟩ := HPR.out
    exact ruleF_bad ht (by unfold ruleOk; rw [← HF.out]; simp))
   gi_wp2
   exact ⟨HK5.out.1.trans (KeepsOthers.setCell _ _ _), ⟨rfl, put1 _ HE5.out, HNO.out, HB7.out.setCell (p := ⟨w.heap.size + 1, 0, none⟩) (by show w.heap.size ≤ w.heap.size + 1; omega) _⟩⟩
  ·gi_wp2
   refine ⟨HK5.out.1, HK5.out.2, ?_, HE5.out, by have := HPN.out; have := of_decide_eq_false c1; simp; omega, fun y hy => ?_, HB7.out⟩
   ·rw [HN5.out, HPN.out]; simp
   ·rcases List.mem_append.1 hy with hy | hy
    ·exact HT4.out y hy
    ·simp only [List.mem_singleton] at hy
     subst hy
     unfold ruleOk
     rw [← HF.out, decide_eq_true (by have := HC2.out; omega)]
     rfl
 case done =>
  rintro D' ys W hD rfl hI hK
  have HK := Lib.hid hK
  obtain ⟨t1, t2, t3, t4, t5⟩ := hI
  have HR : Hid (E = 0) := Lib.hid (by rw [HE.out, if_pos (ruleF_good t3 t4)])
  have HB5 := Lib.hid t5
  have HT2 := Lib.hid t2
  obtain ⟨m0, m1, m2⟩ := one_cell t2
  have hwz : w.heap.size ≤ W.heap.size := t5.size
  have hdw : w.heap.size ≤ D' := by omega
  clear t1 t2 t3 t4 t5 hK
  gi_wp2
  go_wp2_with fail
  refine ⟨by simp, .inl ⟨_, _, rfl, run_takeDeferred (by rw [far1 _ (by omega)]; exact HK.out), ?_⟩⟩
  have pe := (one_cell ((World.putObj_heap_other (w := W.setCell ⟨w.heap.size + 1, 0, none⟩ (.int .i64 0)) (r := D') (k := w.heap.size + 1) (o := .deferred none) (by omega)).trans (put1 (.int .i64 0) HT2.out))).1
  rw [HR.out]
  refine ⟨.int .i64 0, by simp [results, Tryz.results166, go_sem, pe], rfl, ?_⟩
  exact (HB5.out.setCell (p := ⟨w.heap.size + 1, 0, none⟩) (by show w.heap.size ≤ w.heap.size + 1; omega) _).grown (grownBy_putObj' _ D' (.deferred none)) (by simp [World.setCell]; exact hwz) (fun k e => by cases e; exact hdw)
 case stop =>
  rintro D' cc pre W hD _ ⟨rfl, t2, t3, t4⟩ hK
  have HK := Lib.hid hK
  have HR : Hid (E = 120) := Lib.hid (by rw [HE.out, t3]; rfl)
  have HB5 := Lib.hid t4
  have HT2 := Lib.hid t2
  have hwz : w.heap.size ≤ W.heap.size := t4.size
  have hdw : w.heap.size ≤ D' := by omega
  clear t2 t3 t4 hK
  gi_wp2
  refine ⟨by simp, .inl ⟨_, _, rfl, run_takeDeferred HK.out, ?_⟩⟩
  have pe := (one_cell ((World.putObj_heap_other (w := W) (r := D') (k := w.heap.size + 1) (o := .deferred none) (by omega)).trans HT2.out)).1
  rw [HR.out]
  refine ⟨.int .i64 120, by simp [results, Tryz.results166, go_sem, pe], rfl, ?_⟩
  exact HB5.out.grown (grownBy_putObj' _ D' (.deferred none)) hwz (fun k e => by cases e; exact hdw)
end Go.Proofs.YtalmbigebjbaoaaGreatDoor
