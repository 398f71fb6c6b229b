/- Journals: Open. -/
import Derived.Test.YtgbkhmoplocmkaaJouF
import Derived.Deep.RegionHeld3
namespace Go.Proofs.Ytgbkhmoplocmkaa
open Go.RowKit Go.Shelf
set_option linter.unusedSimpArgs false
set_option linter.unusedVariables false
set_option maxRecDepth 20000
attribute [local go_sem] Oper.semAt_some

def recsJ (ss : List (List Int)) : List (List Int) := (recsL ss).map (·.2)
def openJ (d : Dk) : Jl × Int := if validD d then (if d.stopped then (Jl.zero, 450) else if 0 < d.pend.length then (Jl.zero, 1) else (⟨recsJ d.secs, d.secs.length, (recsJ d.secs).length⟩, 0)) else (Jl.zero, 450)
theorem openJ_bad {d : Dk} (h : validD d = false) : openJ d = (Jl.zero, 450) := by simp [openJ, h]
theorem openJ_stopped {d : Dk} (h : validD d = true) (hs : d.stopped = true) : openJ d = (Jl.zero, 450) := by simp [openJ, h, hs]
theorem openJ_pend {d : Dk} (h : validD d = true) (hs : d.stopped = false) (hp : 0 < d.pend.length) : openJ d = (Jl.zero, 1) := by simp [openJ, h, hs, hp]
theorem openJ_ok {d : Dk} (h : validD d = true) (hs : d.stopped = false) (hp : d.pend.length = 0) : openJ d = (⟨recsJ d.secs, d.secs.length, (recsJ d.secs).length⟩, 0) := by simp [openJ, h, hs, hp]

theorem wpListIn_append_reads {α : Type} {F : Fence} {n : Nat} {P : Program} (w : World) {en : α → List Value} {sz : Nat} {ops : Array Oper} {rest : List Oper} {o : Oper} {a : Act} {Q : Exit → Act → World → Prop} (hgd : o.guard = none) (s x : Operand) (t : TypeId)
    (ho : o.op = .call { callee := .builtin .append, args := #[s, x], argTypes := #[t, t] }) (hen : ∀ y, (en y).length = sz) (h1 : ∀ y, ∀ u ∈ en y, u.oneCell' = true)
    (base : Nat) (e : TypeId) (i : TypeInfo) (z : Value) (bytes : Nat) (ht : P.underlying t = some (.slice e)) (hi : P.info? e = some i) (hz : i.zero = some z)
    (hsize : i.size = sz) (hby : i.bytes = bytes) (hzs : z.cells.size = sz) (hsz : 0 < sz)
    (v : Value) (ys : List α) (hs : a.eval s = v) (hown : Owns w base e sz en v ys) (B : Nat) (A : Option Addr) (c : Nat) (xs : List α) (hx : a.eval x = .slice A xs.length c) (hr : Reads w B A sz en xs) (hnil : A = none → c = 0)
    (h63 : ys.length + xs.length ≤ maxLen) (hbytes : (ys.length + xs.length) * bytes ≤ 140737488355328) (hbase : base ≤ w.heap.size)
    (h : ∀ v' w', Owns w' base e sz en v' (ys ++ xs) → w.grownBy w' v.ownBlock → (v'.ownBlock = v.ownBlock ∨ v'.ownBlock = some w.heap.size) → wpListIn F n P ops Q rest (a.put o.dst v') w') :
    wpListIn F n P ops Q (o :: rest) a w := by
  refine wpListIn_plain hgd fun K hK => ?_
  obtain ⟨v', w', hrun, h2, h3, h4, h5⟩ := run_append_reads (P := P) w hen h1 base t o.type e i z bytes ht hi hz hsize hby hzs hsz v ys hown B A c xs hr hnil h63 hbytes hbase
  unfold Oper.wpIn
  refine ⟨?_, ?_⟩
  · simp [Oper.about, ho, resolve, Target.leads, Sem.run_pure]
  · rw [Oper.semAt_plain F _ _ (by rw [ho]; intro c hc'; cases hc')]
    simp [execOp, ho, resolve, invoke, builtin, hs, hx, hrun, Result.andThen]
    exact hK _ _ (h v' w' h2 h3 h4)

theorem recGo_bound {l : List (List Int)} {a : Nat} {last : Int} : ∀ (r : List (List Int)) (n : Nat) (b : List Int) (m : Nat) (b' : List Int), recGo l a last r n b = some (m, b') → n < m ∧ m ≤ n + r.length
  | [], _, _, _, _, h => by simp [recGo] at h
  | s :: r, n, b, m, b', h => by
    unfold recGo at h
    split at h
    · split at h
      · simp at h
        simp
        omega
      · have := recGo_bound r (n + 1) _ m b' h
        simp
        omega
    · cases h
theorem recsGo_len (l : List (List Int)) : ∀ (f a : Nat) (last : Int), a ≤ l.length → (recsGo l f a last).length ≤ l.length - a
  | 0, a, last, _ => by simp [recsGo]
  | f + 1, a, last, ha => by
    unfold recsGo
    split
    · simp
    · rename_i n b h
      have h1 := recGo_bound _ _ _ _ _ h
      rw [List.length_drop] at h1
      have h2 := recsGo_len l f n (num4 (l.getD a [])) (by omega)
      simp only [List.length_cons]
      omega
theorem recsL_len (l : List (List Int)) : (recsL l).length ≤ l.length := by
  have := recsGo_len l (l.length + 1) 0 0 (Nat.zero_le _)
  simpa [recsL] using this

/-- a journal's box -/
structure Box3 (W : World) (b : Nat) (v0 v1 v2 : Value) : Prop where
  c0 : W.cell? ⟨b, 0, none⟩ = some v0
  c1 : W.cell? ⟨b, 1, none⟩ = some v1
  c2 : W.cell? ⟨b, 2, none⟩ = some v2
  f0 : W.frozen? ⟨b, 0, none⟩ = false
  f1 : W.frozen? ⟨b, 1, none⟩ = false
  f2 : W.frozen? ⟨b, 2, none⟩ = false
  z : b < W.heap.size
theorem Box3.step {W W' : World} {b : Nat} {v0 v1 v2 : Value} (h : Box3 W b v0 v1 v2) (hb : Below W.heap.size W W') : Box3 W' b v0 v1 v2 :=
  ⟨(hb.cell (p := ⟨b, 0, none⟩) h.z).trans h.c0, (hb.cell (p := ⟨b, 1, none⟩) h.z).trans h.c1, (hb.cell (p := ⟨b, 2, none⟩) h.z).trans h.c2, (hb.frozen (p := ⟨b, 0, none⟩) h.z).trans h.f0, (hb.frozen (p := ⟨b, 1, none⟩) h.z).trans h.f1, (hb.frozen (p := ⟨b, 2, none⟩) h.z).trans h.f2, Nat.lt_of_lt_of_le h.z hb.size⟩
theorem Box3.new (w : World) (v0 v1 v2 : Value) (t : TypeId) : Box3 (w.alloc (.cells #[v0, v1, v2] t)) w.heap.size v0 v1 v2 := by
  refine ⟨?_, ?_, ?_, ?_, ?_, ?_, by simp⟩ <;> simp [go_sem]

theorem SlR.rec_kept {α : Type} {W W' : World} {P : Nat → Prop} {sz : Nat} {en : α → List Value} {s : Sl} {xs : List α} {row : Option Nat} (h : SlR W P sz en s xs) (hg : W.grownBy W' row) (hr : ∀ r, row = some r → ∃ o : Obj, W.heap[r]? = some o ∧ o.isCells = false) : SlR W' P sz en s xs := by
  obtain ⟨h1, h2, h3, h4, h5, h6⟩ := h
  refine ⟨h1, h2, h3, h4, fun hn => ?_, h6⟩
  obtain ⟨b, off, e, hlt, hc⟩ := h5 hn
  exact ⟨b, off, e, Nat.lt_of_lt_of_le hlt hg.size, fun i x j v hi hj => cell_kept (hc i x j v hi hj) hg hr⟩
/-- bytes in a block of cells outlive what the loop's record does -/
theorem By.rec_kept {W W' : World} {P : Nat → Prop} {s : Sl} {bs : List Int} {row : Option Nat} (h : By W P s bs) (hg : W.grownBy W' row) (hr : ∀ r, row = some r → ∃ o : Obj, W.heap[r]? = some o ∧ o.isCells = false) : By W' P s bs := by
  obtain ⟨⟨h1, h2, h3, h4, h5, h6⟩, h7⟩ := h
  refine ⟨⟨h1, h2, h3, h4, fun hn => ?_, h6⟩, h7⟩
  obtain ⟨b, off, e, hlt, hc⟩ := h5 hn
  exact ⟨b, off, e, Nat.lt_of_lt_of_le hlt hg.size, fun i x j v hi hj => cell_kept (hc i x j v hi hj) hg hr⟩
theorem Box3.rec_kept {W W' : World} {b : Nat} {v0 v1 v2 : Value} {row : Option Nat} (h : Box3 W b v0 v1 v2) (hg : W.grownBy W' row) (hr : ∀ r, row = some r → ∃ o : Obj, W.heap[r]? = some o ∧ o.isCells = false) : Box3 W' b v0 v1 v2 :=
  ⟨cell_kept h.c0 hg hr, cell_kept h.c1 hg hr, cell_kept h.c2 hg hr, (frozen_kept h.c0 hg hr).trans h.f0, (frozen_kept h.c1 hg hr).trans h.f1, (frozen_kept h.c2 hg hr).trans h.f2, Nat.lt_of_lt_of_le h.z hg.size⟩
theorem Box3.far {W W' : World} {b : Nat} {v0 v1 v2 : Value} {row : Option Nat} (h : Box3 W b v0 v1 v2) (hg : W.grownBy W' row) (hr : row ≠ some b) : Box3 W' b v0 v1 v2 := by
  have hk := hg.block b h.z (fun e => hr e.symm)
  exact ⟨(World.cell?_of_block (a := ⟨b, 0, none⟩) hk).trans h.c0, (World.cell?_of_block (a := ⟨b, 1, none⟩) hk).trans h.c1, (World.cell?_of_block (a := ⟨b, 2, none⟩) hk).trans h.c2, (World.frozen?_of_block (a := ⟨b, 0, none⟩) hk).trans h.f0, (World.frozen?_of_block (a := ⟨b, 1, none⟩) hk).trans h.f1, (World.frozen?_of_block (a := ⟨b, 2, none⟩) hk).trans h.f2, Nat.lt_of_lt_of_le h.z hg.size⟩
theorem Owns.cells_ {α : Type} {w : World} {b sz : Nat} {e : TypeId} {en : α → List Value} {v : Value} {ys : List α} (h : Owns w b e sz en v ys) : ∀ g, v.ownBlock = some g → ∃ o, w.heap[g]? = some o ∧ o.isCells = true := by
  intro g hg
  rcases h.2 with ⟨rfl, _⟩ | ⟨g', cap, cur, rfl, h2, h3, h4⟩
  · cases hg
  · simp [Value.ownBlock] at hg
    subst hg
    exact ⟨_, h3, rfl⟩
theorem by_other {W : World} {B : Nat} {v : Value} {s : Sl} {bs : List Int} {vs : List Sl} (h : By W (fun b => B ≤ b) s bs) (ht : ByteBlk W s bs) (ho : Owns W B 35 1 slE v vs) : By W (fun b => B ≤ b ∧ b < W.heap.size ∧ v.ownBlock ≠ some b) s bs := by
  obtain ⟨⟨h1, h2, h3, h4, h5, h6⟩, h7⟩ := h
  refine ⟨⟨h1, h2, h3, h4, h5, fun hp a e => ⟨h6 hp a e, (ht hp a e).1, fun e2 => ?_⟩⟩, h7⟩
  obtain ⟨_, cs, fz, hb⟩ := ht hp a e
  rcases ho.2 with ⟨rfl, _⟩ | ⟨g', cap, cur, rfl, h2, h3, h4⟩
  · cases e2
  · simp [Value.ownBlock] at e2
    subst e2
    rw [hb] at h3
    simp at h3
/-- what Open knows between two rounds -/
structure AccJ (w : World) (bl B0 : Nat) (many : Int) (pre : List Rv) (v : Value) (W : World) : Prop where
  box : Box3 W bl v (.int .i64 many) (.int .i64 0)
  row : Owns W B0 35 1 slE v (pre.map Rv.v)
  by_ : ∀ x ∈ pre, By W (fun b => B0 ≤ b ∧ v.ownBlock ≠ some b) x.v x.bs
  bel : Below w.heap.size w W
theorem AccJ.rec_kept {w W W' : World} {bl B0 : Nat} {many : Int} {pre : List Rv} {v : Value} {row : Option Nat} (h : AccJ w bl B0 many pre v W) (hB : w.heap.size ≤ B0) (hg : W.grownBy W' row) (hr : ∀ r, row = some r → B0 ≤ r ∧ ∃ o : Obj, W.heap[r]? = some o ∧ o.isCells = false) : AccJ w bl B0 many pre v W' :=
  ⟨h.box.rec_kept hg (fun r e => (hr r e).2), h.row.kept hg (fun g hgo e => by
    obtain ⟨_, o, h1, h2⟩ := hr g e
    obtain ⟨o', h3, h4⟩ := h.row.cells_ g hgo
    rw [h1] at h3
    cases h3
    rw [h2] at h4
    cases h4), fun x hx => (h.by_ x hx).rec_kept hg (fun r e => (hr r e).2), h.bel.grown hg h.bel.size (fun k e => by have := (hr k e).1; omega)⟩

set_option maxRecDepth 100000 in
set_option maxHeartbeats 2000000 in
theorem Open_any {P : Nat → Prop} (d : Dk) (sv pv : Sl) (w : World) (h : Di w P sv pv d) :
    Calls Try.prog 12 #[dkV sv pv d] w fun e w' => (∃ rv : Sl, e = .returned (.tuple #[jlV rv (openJ d).1, .int .i64 (openJ d).2]) ∧ Se w' (fun b => w.heap.size ≤ b) rv (openJ d).1.recs) ∧ Below w.heap.size w w' := by
  have hs := h.1.len
  have hp := h.2.len
  have HD := Lib.hid h
  have hle := h.1.le
  have hlp : d.pend.length ≤ 9223372036854775807 := by
    obtain ⟨vs, h1, h2, _⟩ := h.2
    have := h1.le
    omega
  clear h
  obtain ⟨A, n, c⟩ := sv
  obtain ⟨B, np, cp⟩ := pv
  simp only at hs hp
  subst hs hp
  have hb0 : Below w.heap.size w ((w.alloc (.cells #[.slice A d.secs.length c, .slice B d.pend.length cp, .int .i64 d.left, .bool d.stopped] 25)).alloc (.cells #[.slice none 0 0, .int .i64 0, .int .i64 0] 29)) := ((Below.refl _ _).alloc (Nat.le_refl _) _).alloc (by simp) _
  have HB0 := Lib.hid hb0
  have HX1 : Hid (Box4 ((w.alloc (.cells #[.slice A d.secs.length c, .slice B d.pend.length cp, .int .i64 d.left, .bool d.stopped] 25)).alloc (.cells #[.slice none 0 0, .int .i64 0, .int .i64 0] 29)) w.heap.size (.slice A d.secs.length c) (.slice B d.pend.length cp) (.int .i64 d.left) (.bool d.stopped)) := Lib.hid ((Box4.new w _ _ _ _ 25).step ((Below.refl _ _).alloc (Nat.le_refl _) _))
  have HX2 : Hid (Box3 ((w.alloc (.cells #[.slice A d.secs.length c, .slice B d.pend.length cp, .int .i64 d.left, .bool d.stopped] 25)).alloc (.cells #[.slice none 0 0, .int .i64 0, .int .i64 0] 29)) (w.heap.size + 1) (.slice none 0 0) (.int .i64 0) (.int .i64 0)) := Lib.hid (by have := Box3.new (w.alloc (.cells #[.slice A d.secs.length c, .slice B d.pend.length cp, .int .i64 d.left, .bool d.stopped] 25)) (.slice none 0 0) (.int .i64 0) (.int .i64 0) 29; simpa using this)
  clear hb0
  cases hv : validD d
  · rw [openJ_bad hv]
    have HC := Lib.hid (checkD_no hv)
    clear hv
    unfold dkV jlV Jl.zero
    go_enter Try.func12, Try.ntmps12
    go_wp2_with fail
    refine (Check_any d ⟨A, d.secs.length, c⟩ ⟨B, d.pend.length, cp⟩ _ (HD.out.step HB0.out)).mono ?_
    rw [HC.out]
    rintro e w1 ⟨rfl, hb1⟩
    obtain ⟨q0, q1, q2, q3, q4, q5, q6⟩ := HX2.out.step hb1
    have HB1 := Lib.hid (HB0.out.trans (hb1.mono HB0.out.size))
    clear hb1
    go_wp2_with fail
    exact bodyPost_ret (v := .tuple #[.agg #[.slice none 0 0, .int .i64 0, .int .i64 0], .int .i64 450]) (by simp [results, Try.results12, go_sem, q0, q1, q2]) rfl ⟨⟨⟨none, 0, 0⟩, rfl, Se.nil_ _ _⟩, ((HB1.out.setCell (p := ⟨w.heap.size + 1, 0, none⟩) (Nat.le_succ _) _).setCell (p := ⟨w.heap.size + 1, 1, none⟩) (Nat.le_succ _) _).setCell (p := ⟨w.heap.size + 1, 2, none⟩) (Nat.le_succ _) _⟩
  · have HC := Lib.hid (checkD_yes hv)
    have HV := Lib.hid hv
    clear hv
    cases hst : d.stopped
    case true =>
      rw [openJ_stopped HV.out hst]
      rw [hst] at HB0 HX1 HX2
      unfold dkV jlV Jl.zero
      rw [hst]
      have HST := Lib.hid hst
      clear hst
      go_enter Try.func12, Try.ntmps12
      go_wp2_with fail
      have hck := Check_any d ⟨A, d.secs.length, c⟩ ⟨B, d.pend.length, cp⟩ _ (HD.out.step HB0.out)
      unfold dkV at hck
      rw [HST.out] at hck
      refine hck.mono ?_
      rw [HC.out]
      rintro e w1 ⟨rfl, hb1⟩
      obtain ⟨q0, q1, q2, q3, q4, q5, q6⟩ := HX2.out.step hb1
      obtain ⟨r0, r1, r2, r3, _, _, _, _, r8⟩ := HX1.out.step hb1
      have HB1 := Lib.hid (HB0.out.trans (hb1.mono HB0.out.size))
      clear hb1 hck
      go_wp2_with fail
      exact bodyPost_ret (v := .tuple #[.agg #[.slice none 0 0, .int .i64 0, .int .i64 0], .int .i64 450]) (by simp [results, Try.results12, go_sem, q0, q1, q2]) rfl ⟨⟨⟨none, 0, 0⟩, rfl, Se.nil_ _ _⟩, ((HB1.out.setCell (p := ⟨w.heap.size + 1, 0, none⟩) (Nat.le_succ _) _).setCell (p := ⟨w.heap.size + 1, 1, none⟩) (Nat.le_succ _) _).setCell (p := ⟨w.heap.size + 1, 2, none⟩) (Nat.le_succ _) _⟩
    case false =>
      rw [hst] at HB0 HX1 HX2
      have HST := Lib.hid hst
      by_cases hpn : 0 < d.pend.length
      · rw [openJ_pend HV.out hst hpn]
        unfold dkV jlV Jl.zero
        rw [hst]
        clear hst
        go_enter Try.func12, Try.ntmps12
        go_wp2_with fail
        have hck := Check_any d ⟨A, d.secs.length, c⟩ ⟨B, d.pend.length, cp⟩ _ (HD.out.step HB0.out)
        unfold dkV at hck
        rw [HST.out] at hck
        refine hck.mono ?_
        rw [HC.out]
        rintro e w1 ⟨rfl, hb1⟩
        obtain ⟨q0, q1, q2, q3, q4, q5, q6⟩ := HX2.out.step hb1
        obtain ⟨r0, r1, r2, r3, _, _, _, _, r8⟩ := HX1.out.step hb1
        have HB1 := Lib.hid (HB0.out.trans (hb1.mono HB0.out.size))
        clear hb1 hck
        go_wp2_with fail
        exact bodyPost_ret (v := .tuple #[.agg #[.slice none 0 0, .int .i64 0, .int .i64 0], .int .i64 1]) (by simp [results, Try.results12, go_sem, q0, q1, q2]) rfl ⟨⟨⟨none, 0, 0⟩, rfl, Se.nil_ _ _⟩, ((HB1.out.setCell (p := ⟨w.heap.size + 1, 0, none⟩) (Nat.le_succ _) _).setCell (p := ⟨w.heap.size + 1, 1, none⟩) (Nat.le_succ _) _).setCell (p := ⟨w.heap.size + 1, 2, none⟩) (Nat.le_succ _) _⟩
      · rw [openJ_ok HV.out hst (by omega)]
        unfold dkV jlV
        rw [hst]
        clear hst
        obtain ⟨rs, hrs⟩ : ∃ rs, rs = recsJ d.secs := ⟨_, rfl⟩
        simp only
        rw [← hrs]
        have HRS := Lib.hid hrs
        clear hrs
        refine (callsIn_wide (n := 6)).1 ?_
        refine callsIn_of_wp_marks Try.func12 rfl trivial ?_ rfl
        simp only [Try.ntmps12, List.size_toArray, List.length_cons, List.length_nil, Nat.reduceAdd, Nat.reduceSub, Array.replicate_succ, Array.replicate_zero, List.push_toArray, List.append_toArray, List.nil_append, List.cons_append]
        refine wpIn_wide.2 ?_
        go_wp2_with fail
        have hck := Check_any d ⟨A, d.secs.length, c⟩ ⟨B, d.pend.length, cp⟩ _ (HD.out.step HB0.out)
        unfold dkV at hck
        rw [HST.out] at hck
        refine hck.mono ?_
        rw [HC.out]
        rintro e w1 ⟨rfl, hb1⟩
        obtain ⟨q0, q1, q2, q3, q4, q5, q6⟩ := HX2.out.step hb1
        obtain ⟨r0, r1, r2, r3, _, _, _, _, r8⟩ := HX1.out.step hb1
        have HB1 := Lib.hid (HB0.out.trans (hb1.mono HB0.out.size))
        have HD1 := Lib.hid (HD.out.step HB1.out)
        clear hb1 hck
        go_upto_region 9 with fail
        obtain ⟨w2, hw2⟩ : ∃ X, X = w1.setCell ⟨w.heap.size + 1, 1, none⟩ (.int .i64 d.secs.length) := ⟨_, rfl⟩
        have k0 : w2.cell? ⟨w.heap.size + 1, 0, none⟩ = some (.slice none 0 0) := by rw [hw2]; simp [go_sem, q0]
        have k1 : w2.cell? ⟨w.heap.size + 1, 1, none⟩ = some (.int .i64 d.secs.length) := by rw [hw2]; simp [go_sem, q1]
        have k2 : w2.cell? ⟨w.heap.size + 1, 2, none⟩ = some (.int .i64 0) := by rw [hw2]; simp [go_sem, q2]
        have k3 : w2.frozen? ⟨w.heap.size + 1, 0, none⟩ = false := by rw [hw2, World.frozen?_setCell]; exact q3
        have k4 : w2.frozen? ⟨w.heap.size + 1, 1, none⟩ = false := by rw [hw2, World.frozen?_setCell]; exact q4
        have k5 : w2.frozen? ⟨w.heap.size + 1, 2, none⟩ = false := by rw [hw2, World.frozen?_setCell]; exact q5
        have k6 : w.heap.size + 1 < w2.heap.size := by rw [hw2]; simpa [World.setCell] using q6
        have r0 : w2.cell? ⟨w.heap.size, 0, none⟩ = some (.slice A d.secs.length c) := by rw [hw2]; simp [go_sem, r0]
        have HB2 : Hid (Below w.heap.size w w2) := Lib.hid (by rw [hw2]; exact HB1.out.setCell (p := ⟨w.heap.size + 1, 1, none⟩) (Nat.le_succ _) _)
        have HX3 : Hid (Box3 w2 (w.heap.size + 1) (.slice none 0 0) (.int .i64 d.secs.length) (.int .i64 0)) := Lib.hid ⟨k0, k1, k2, k3, k4, k5, k6⟩
        have r8 : w.heap.size < w2.heap.size := by omega
        rw [← hw2]
        clear hw2 q0 q1 q2 q3 q4 q5 q6 r1 r2 r3 k0 k1 k2 k3 k4 k5
        go_wp2_with fail
        refine (records_any A d.secs.length c _).mono ?_
        rintro e w3 ⟨rfl, hw3⟩
        have HB3 : Hid (Below w.heap.size w w3) := Lib.hid (by rw [hw3]; exact HB2.out.alloc HB2.out.size _)
        have HX4 : Hid (Box3 w3 (w.heap.size + 1) (.slice none 0 0) (.int .i64 d.secs.length) (.int .i64 0)) := Lib.hid (HX3.out.step (by rw [hw3]; exact (Below.refl _ _).alloc (Nat.le_refl _) _))
        have hz3 : w3.heap.size = w2.heap.size + 1 := by rw [hw3]; simp
        have hc3 : w3.cell? ⟨w2.heap.size, 0, none⟩ = some (.slice A d.secs.length c) := by rw [hw3]; simp [go_sem]
        have HSE : Hid (Se w3 (fun b => b < w3.heap.size ∧ ¬ b = w.heap.size + 1) ⟨A, d.secs.length, c⟩ d.secs) := Lib.hid (((HD.out.mono2 (Q := fun b => b < w.heap.size) (fun b _ hl => hl)).step HB3.out).1.mono (fun b hb => by omega))
        clear hw3
        have HZ3 := Lib.hid hz3
        go_wp2_with fail
        refine (wpIn_wide (n := 5)).1 ?_
        have hd96 : d.secs.length ≤ 4096 := by have := HV.out; simp [validD, sizesOk] at this; omega
        have hd128 : ∀ s ∈ d.secs, s.length = 128 := fun s hs => by have := HV.out; simp [validD, isSec] at this; exact this.2.2 s hs
        have HA0 : Hid (AccJ w (w.heap.size + 1) w3.heap.size d.secs.length [] (.slice none 0 0) w3) := Lib.hid ⟨HX4.out, Owns.nil_ _ _ _ _ _, by simp, HB3.out⟩
        refine wpIn_seqMG (α := Rv) rfl (by decide) (gf := 60) (lb := #[.pointer (some ⟨w2.heap.size, 0, none⟩)]) rfl trivial (enters_of Try.func60 (by kernel_rfl) rfl)
          (own := fun _ => False) (free := fun b => b = w.heap.size + 1) (fun b h => h.elim)
          (M := fun x W => By W (fun b => w3.heap.size ≤ b) x.v x.bs ∧ ByteBlk W x.v x.bs) (fun x W W' h hb => ⟨h.1.step hb, h.2.step hb⟩) (fun x W L o o' h hL ho => ⟨h.1.rec_kept (grownBy_putObj' _ L o') (fun r e => by cases e; exact ⟨_, hL, ho⟩), h.2.put hL ho⟩)
          (records_iter w3 4 w2.heap.size d.secs hd96 hd128 (fun b => b = w.heap.size + 1) ⟨A, d.secs.length, c⟩ hc3 HSE.out (by omega) (by omega))
          (fun _ => rfl) (fun pre W => ∃ v, AccJ w (w.heap.size + 1) w3.heap.size d.secs.length pre v W) (fun _ _ _ => False) ?own (fun _ _ _ _ _ h _ _ => h) (fun _ _ _ _ _ h => h.elim) (fun _ _ _ _ _ h _ => h) ⟨_, HA0.out⟩
          ?G ?assign ?body ?done ?stop
        case own =>
          rintro pre W W' row ⟨v, ha⟩ hg hr
          exact ⟨v, ha.rec_kept HB3.out.size hg hr⟩
        case assign =>
          intro l pre x W K hi hpr hz hK
          simp only [Rv.args]
          gi_wp2
          exact hK _ (KeepsOthers.refl _) (Below.refl _ _)
        case body =>
          rintro l pre x W ⟨v, ha⟩ hm hpr hz
          obtain ⟨i0, hi0, hz0, hz1', hz2'⟩ := info_parts Try.infoSl
          have HI := Lib.hid hi0
          obtain ⟨vs, hvs⟩ : ∃ vs, vs = pre.map Rv.v := ⟨_, rfl⟩
          have hrow := ha.row
          rw [← hvs] at hrow
          obtain ⟨Av, cv, rfl, _, _⟩ := hrow.shape
          have HR := Lib.hid hrow
          have HA := Lib.hid ha
          have HM := Lib.hid hm
          have hlen : pre.length + 1 ≤ 4096 := by
            obtain ⟨t, ht⟩ := hpr
            have h1 := recsL_len d.secs
            rw [← ht] at h1
            simp at h1; omega
          obtain ⟨b0, b1, b2, b3, b4, b5, b6⟩ := ha.box
          have hpl : vs.length + 1 ≤ 4096 := by rw [hvs]; simp; omega
          have HVS := Lib.hid hvs
          have hzw := ha.bel.size
          clear hi0 ha hm hpr hvs hrow hlen
          gi_wp2_with (gi_at_builtin; refine stop_mk ?_)
          have hal : Below W.heap.size W (W.alloc (.cells #[.slice x.v.a x.v.n x.v.c] 35)) := (Below.refl _ _).alloc (Nat.le_refl _) _
          have HAL := Lib.hid hal
          clear hal
          refine stop_out (wpListIn_append_reads (en := slE) (sz := 1) _ rfl _ _ _ rfl slE_len slE_one w3.heap.size 35 i0 _ 24 Try.underlying22 HI.out hz0 hz1' hz2' rfl (by omega) (.slice Av vs.length cv) vs rfl (HR.out.alloc _)
            (W.heap.size + 1) (some ⟨W.heap.size, 0, none⟩) 1 [x.v] rfl (reads_one W slE x.v _ _ rfl 1 W.heap.size rfl) (fun h => by cases h) (by simp [maxLen]; omega) (by simp; omega) (by simp; omega) ?_)
          intro v' w4 hown4 hg4 hat4
          obtain ⟨A4, c4, rfl, _, _⟩ := hown4.shape
          have hb4 : Box3 w4 (w.heap.size + 1) (.slice Av vs.length cv) (.int .i64 d.secs.length) (.int .i64 0) := (HA.out.box.step HAL.out).far hg4 (fun e => by have := HR.out.base_le _ e; omega)
          obtain ⟨k0, k1, k2, k3, k4, k5, k6⟩ := hb4
          have HG4 := Lib.hid hg4
          have HO4 := Lib.hid hown4
          have HAT := Lib.hid hat4
          have HB4 : Hid (Box3 w4 (w.heap.size + 1) (.slice Av vs.length cv) (.int .i64 d.secs.length) (.int .i64 0)) := Lib.hid ⟨k0, k1, k2, k3, k4, k5, k6⟩
          have HBX : Hid (By W (fun b => w3.heap.size ≤ b ∧ b < W.heap.size ∧ (Value.slice Av vs.length cv).ownBlock ≠ some b) x.v x.bs) := Lib.hid (by_other HM.out.1 HM.out.2 HR.out)
          have HBO : Hid (∀ y ∈ pre, By W (fun b => w3.heap.size ≤ b ∧ b < W.heap.size ∧ (Value.slice Av vs.length cv).ownBlock ≠ some b) y.v y.bs) := Lib.hid (fun y hy => (HA.out.by_ y hy).mono2 (fun b hb hl => ⟨hb.1, hl, hb.2⟩))
          clear hown4 hg4 hat4 b0 b1 b2 b3 b4 b5 b6
          gi_wp2
          have hkp : Keep w3.heap.size (fun b => b = w.heap.size + 1) W (w4.setCell ⟨w.heap.size + 1, 0, none⟩ (.slice A4 (vs.length + 1) c4)) :=
            Keep.setCell (free := fun b => b = w.heap.size + 1) (((Keep.refl _ _ _).alloc (by omega) _).grown HG4.out (by simp; omega) (fun k e => .inr (HR.out.base_le k e))) (a := ⟨w.heap.size + 1, 0, none⟩) (.inl rfl) _
          have hby : ∀ (y : Sl) (bs : List Int), By W (fun b => w3.heap.size ≤ b ∧ b < W.heap.size ∧ (Value.slice Av vs.length cv).ownBlock ≠ some b) y bs → By (w4.setCell ⟨w.heap.size + 1, 0, none⟩ (.slice A4 (vs.length + 1) c4)) (fun b => w3.heap.size ≤ b ∧ (Value.slice A4 (vs.length + 1) c4).ownBlock ≠ some b) y bs := by
            intro y bs h
            have h1 := (h.step HAL.out).keep (Kp.of_grown2 HG4.out (fun b hb e => hb.2.2 e.symm))
            have h2 := h1.keep (Kp.of_grown2 (grownBy_setCell' w4 ⟨w.heap.size + 1, 0, none⟩ (.slice A4 (vs.length + 1) c4)) (fun b hb e => by simp at e; omega))
            refine h2.mono (fun b hb => ⟨hb.1, fun e => ?_⟩)
            have hat := HAT.out
            simp only [List.length_append, List.length_cons, List.length_nil, Nat.zero_add] at hat
            rcases hat with hat | hat
            · exact hb.2.2 (by rw [← hat]; exact e)
            · rw [hat] at e
              simp at e
              omega
          refine ⟨((KeepsOthers.alloc W _).trans (KeepsOthers.of_grownBy HG4.out (fun j o hj ho => ?_))).trans (KeepsOthers.setCell _ _ _), hkp, .slice A4 (vs.length + 1) c4, ⟨⟨?b0, ?b1, ?b2, ?b3, ?b4, ?b5, ?b6⟩, ?row, ?by_, ?bel⟩⟩
          case b0 => exact set_at _ _ _ _ k0
          case b1 => rw [set_far _ _ _ _ (addr_ne (by omega))]; exact k1
          case b2 => rw [set_far _ _ _ _ (addr_ne (by omega))]; exact k2
          case b3 => rw [World.frozen?_setCell]; exact k3
          case b4 => rw [World.frozen?_setCell]; exact k4
          case b5 => rw [World.frozen?_setCell]; exact k5
          case b6 => simpa [World.setCell] using k6
          case row =>
            have o4 := HO4.out
            rw [show (pre ++ [x]).map Rv.v = vs ++ [x.v] by rw [HVS.out]; simp]
            have o5 := o4.kept (row := some (w.heap.size + 1)) (grownBy_setCell' w4 ⟨w.heap.size + 1, 0, none⟩ (.slice A4 (vs.length + 1) c4)) (fun g hg e => by cases e; have := o4.base_le _ hg; omega)
            simpa using o5
          case by_ =>
            intro y hy
            rcases List.mem_append.1 hy with h | h
            · exact hby _ _ (HBO.out y h)
            · simp at h
              subst h
              exact hby _ _ HBX.out
          case bel => exact ((HA.out.bel.trans (HAL.out.mono HA.out.bel.size)).grown HG4.out (by simp; omega) (fun k e => by have := HR.out.base_le k e; omega)).setCell (p := ⟨w.heap.size + 1, 0, none⟩) (Nat.le_succ _) _
          · obtain ⟨o', h3, h4⟩ := (HR.out.alloc _).cells_ j hj
            rw [ho] at h3
            cases h3
            exact h4
        case done =>
          rintro D' xs W hD hS ⟨v, ha⟩ hK
          obtain ⟨vs, hvs⟩ : ∃ vs, vs = xs.map Rv.v := ⟨_, rfl⟩
          have hrow := ha.row
          rw [← hvs] at hrow
          obtain ⟨Av, cv, rfl, _, _⟩ := hrow.shape
          obtain ⟨k0, k1, k2, k3, k4, k5, k6⟩ := ha.box
          have hvl : vs.length ≤ 4096 := by
            have h1 := recsL_len d.secs
            rw [← hS] at h1
            rw [hvs]
            simp at h1 ⊢
            omega
          have HR := Lib.hid hrow
          have HA := Lib.hid ha
          have HK := Lib.hid hK
          have HS := Lib.hid hS
          have HVS := Lib.hid hvs
          clear hrow ha hK hS hvs
          gi_wp2
          go_wp2_with fail
          obtain ⟨W5, hW5⟩ : ∃ X, X = (((W.setCell ⟨w.heap.size + 1, 2, none⟩ (.int .i64 vs.length)).setCell ⟨w.heap.size + 1, 0, none⟩ (.slice Av vs.length cv)).setCell ⟨w.heap.size + 1, 1, none⟩ (.int .i64 d.secs.length)).setCell ⟨w.heap.size + 1, 2, none⟩ (.int .i64 vs.length) := ⟨_, rfl⟩
          rw [← hW5]
          have hK' : W5.heap[D']? = some (.deferred (some [])) := by
            rw [hW5]
            exact ((((KeepsOthers.setCell W _ _).trans (KeepsOthers.setCell _ _ _)).trans (KeepsOthers.setCell _ _ _)).trans (KeepsOthers.setCell _ _ _)).same D' _ HK.out rfl
          have e0 : W5.cell? ⟨w.heap.size + 1, 0, none⟩ = some (.slice Av vs.length cv) := by rw [hW5]; simp [go_sem, k0, k1, k2]
          have e1 : W5.cell? ⟨w.heap.size + 1, 1, none⟩ = some (.int .i64 d.secs.length) := by rw [hW5]; simp [go_sem, k0, k1, k2]
          have e2 : W5.cell? ⟨w.heap.size + 1, 2, none⟩ = some (.int .i64 vs.length) := by rw [hW5]; simp [go_sem, k0, k1, k2]
          have hrec : ∀ r, some D' = some r → ∃ o : Obj, W5.heap[r]? = some o ∧ o.isCells = false := fun r e => by cases e; exact ⟨_, hK', rfl⟩
          have p0 := cell_kept e0 (grownBy_putObj' W5 D' (.deferred none)) hrec
          have p1 := cell_kept e1 (grownBy_putObj' W5 D' (.deferred none)) hrec
          have p2 := cell_kept e2 (grownBy_putObj' W5 D' (.deferred none)) hrec
          have hby : ∀ (P : Nat → Prop) (y : Sl) (bs : List Int), (∀ b, P b → b ≠ w.heap.size + 1) → By W P y bs → By (W5.putObj D' (.deferred none)) P y bs := by
            intro P y bs hP h
            have c1 := h.keep (Kp.of_grown2 (grownBy_setCell' W ⟨w.heap.size + 1, 2, none⟩ (.int .i64 vs.length)) (fun b hb e => hP b hb (by simpa using e)))
            have c2 := c1.keep (Kp.of_grown2 (grownBy_setCell' _ ⟨w.heap.size + 1, 0, none⟩ (.slice Av vs.length cv)) (fun b hb e => hP b hb (by simpa using e)))
            have c3 := c2.keep (Kp.of_grown2 (grownBy_setCell' _ ⟨w.heap.size + 1, 1, none⟩ (.int .i64 d.secs.length)) (fun b hb e => hP b hb (by simpa using e)))
            have c4 := c3.keep (Kp.of_grown2 (grownBy_setCell' _ ⟨w.heap.size + 1, 2, none⟩ (.int .i64 vs.length)) (fun b hb e => hP b hb (by simpa using e)))
            rw [← hW5] at c4
            exact c4.rec_kept (grownBy_putObj' W5 D' (.deferred none)) hrec
          have hbel : Below w.heap.size w W5 := by
            rw [hW5]
            exact (((HA.out.bel.setCell (p := ⟨w.heap.size + 1, 2, none⟩) (Nat.le_succ _) _).setCell (p := ⟨w.heap.size + 1, 0, none⟩) (Nat.le_succ _) _).setCell (p := ⟨w.heap.size + 1, 1, none⟩) (Nat.le_succ _) _).setCell (p := ⟨w.heap.size + 1, 2, none⟩) (Nat.le_succ _) _
          have hz3' := HB3.out.size
          have hrl : rs.length = vs.length := by
            have h1 := congrArg List.length HS.out
            rw [HRS.out, HVS.out]
            simp [recsJ] at h1 ⊢
            omega
          refine ⟨by simp, .inl ⟨_, _, rfl, run_takeDeferred hK', ?_⟩⟩
          refine ⟨.tuple #[.agg #[.slice Av vs.length cv, .int .i64 d.secs.length, .int .i64 vs.length], .int .i64 0], by simp [results, Try.results12, go_sem, p0, p1, p2], ⟨⟨⟨Av, vs.length, cv⟩, by rw [hrl], ?se⟩, ?bel⟩⟩
          case bel => exact hbel.grown (grownBy_putObj' W5 D' (.deferred none)) (by have := hbel.size; omega) (fun k e => by cases e; omega)
          case se =>
            have hne : ∀ b, w3.heap.size ≤ b → b ≠ w.heap.size + 1 := fun b hb => by omega
            have s0 : SlR W (fun b => w3.heap.size ≤ b) 1 slE ⟨Av, vs.length, cv⟩ vs := SlR.of_owns slE_len HR.out
            have s1 := s0.keep (Kp.of_grown2 (grownBy_setCell' W ⟨w.heap.size + 1, 2, none⟩ (.int .i64 vs.length)) (fun b hb e => hne b hb (by simpa using e)))
            have s2 := s1.keep (Kp.of_grown2 (grownBy_setCell' _ ⟨w.heap.size + 1, 0, none⟩ (.slice Av vs.length cv)) (fun b hb e => hne b hb (by simpa using e)))
            have s3 := s2.keep (Kp.of_grown2 (grownBy_setCell' _ ⟨w.heap.size + 1, 1, none⟩ (.int .i64 d.secs.length)) (fun b hb e => hne b hb (by simpa using e)))
            have s4 := s3.keep (Kp.of_grown2 (grownBy_setCell' _ ⟨w.heap.size + 1, 2, none⟩ (.int .i64 vs.length)) (fun b hb e => hne b hb (by simpa using e)))
            rw [← hW5] at s4
            refine ⟨vs, (s4.rec_kept (grownBy_putObj' W5 D' (.deferred none)) hrec).mono (fun b hb => by omega), hrl.symm, fun i v bs hi hj => ?_⟩
            have hrs : rs = xs.map Rv.bs := by
              rw [HRS.out]
              unfold recsJ
              rw [← HS.out, List.map_map]
              rfl
            rw [HVS.out, List.getElem?_map] at hi
            rw [hrs, List.getElem?_map] at hj
            obtain ⟨x, hx, rfl⟩ := Option.map_eq_some_iff.1 hi
            rw [hx] at hj
            cases hj
            exact (hby (fun b => w3.heap.size ≤ b) x.v x.bs (fun b hb => by omega) ((HA.out.by_ x (List.mem_of_getElem? hx)).mono (fun b hb => hb.1))).mono (fun b hb => by omega)
        case stop =>
          rintro D c pre W _ _ h _
          exact h.elim
end Go.Proofs.Ytgbkhmoplocmkaa
