/- Merge: a range over the merging iterator. -/
import Derived.Test.YtplfeelcijnkjaaStampsE
import Derived.Test.YtplfeelcijnkjaaStampsF
import Derived.Test.YtplfeelcijnkjaaAppLib
namespace Go.Proofs.Ytplfeelcijnkjaa
open Go.RowKit Go.Shelf
set_option linter.unusedSimpArgs false
set_option linter.unusedVariables false
attribute [local go_sem] Oper.semAt_some

theorem St.enc_len (x : St) : x.enc.length = 3 := rfl
theorem St.enc_one (x : St) : ∀ u ∈ x.enc, u.oneCell' = true := by
  intro u hu
  simp [St.enc] at hu
  rcases hu with rfl | rfl | rfl <;> rfl
theorem Try.infoSt : (Try.prog.info? 23).map (fun i => (i.zero, i.size, i.bytes)) = some (some (.agg #[.int .i64 0, .int .i64 0, .int .i64 0]), 3, 24) := by kernel_rfl
theorem Owns.base {α : Type} {w : World} {b b' sz : Nat} {e : TypeId} {en : α → List Value} {v : Value} {ys : List α} (h : Owns w b e sz en v ys) (hb : b' ≤ b) : Owns w b' e sz en v ys := by
  refine ⟨h.1, ?_⟩
  rcases h.2 with h1 | ⟨g, cap, cur, h1, h2, h3, h4⟩
  · exact .inl h1
  · exact .inr ⟨g, cap, cur, h1, Nat.le_trans hb h2, h3, h4⟩
theorem Owns.cells {α : Type} {w : World} {b sz : Nat} {e : TypeId} {en : α → List Value} {v : Value} {ys : List α} (h : Owns w b e sz en v ys) : ∀ g, v.ownBlock = some g → ∃ o, w.heap[g]? = some o ∧ o.isCells = true := by
  intro g hg
  rcases h.2 with ⟨rfl, _⟩ | ⟨g', cap, cur, rfl, h2, h3, h4⟩
  · cases hg
  · simp [Value.ownBlock] at hg
    subst hg
    exact ⟨_, h3, rfl⟩

theorem wpListIn_append_reads {α : Type} {F : Fence} {n : Nat} {P : Program} (w : World) {en : α → List Value} {sz : Nat} {ops : Array Oper} {rest : List Oper} {o : Oper} {a : Act} {Q : Exit → Act → World → Prop} (hgd : o.guard = none) (s x : Operand) (t : TypeId)
    (ho : o.op = .call { callee := .builtin .append, args := #[s, x], argTypes := #[t, t] }) (hen : ∀ y, (en y).length = sz) (h1 : ∀ y, ∀ u ∈ en y, u.oneCell' = true)
    (base : Nat) (e : TypeId) (i : TypeInfo) (z : Value) (bytes : Nat) (ht : P.underlying t = some (.slice e)) (hi : P.info? e = some i) (hz : i.zero = some z)
    (hsize : i.size = sz) (hby : i.bytes = bytes) (hzs : z.cells.size = sz) (hsz : 0 < sz)
    (v : Value) (ys : List α) (hs : a.eval s = v) (hown : Owns w base e sz en v ys) (B : Nat) (A : Option Addr) (c : Nat) (xs : List α) (hx : a.eval x = .slice A xs.length c) (hr : Reads w B A sz en xs) (hnil : A = none → c = 0)
    (h63 : ys.length + xs.length ≤ maxLen) (hbytes : (ys.length + xs.length) * bytes ≤ 140737488355328) (hbase : base ≤ w.heap.size)
    (h : ∀ v' w', Owns w' base e sz en v' (ys ++ xs) → w.grownBy w' v.ownBlock → (v'.ownBlock = v.ownBlock ∨ v'.ownBlock = some w.heap.size) → wpListIn F n P ops Q rest (a.put o.dst v') w') :
    wpListIn F n P ops Q (o :: rest) a w := by
  refine wpListIn_plain hgd fun K hK => ?_
  obtain ⟨v', w', hrun, h2, h3, h4, h5⟩ := run_append_reads (P := P) w hen h1 base t o.type e i z bytes ht hi hz hsize hby hzs hsz v ys hown B A c xs hr hnil h63 hbytes hbase
  unfold Oper.wpIn
  refine ⟨?_, ?_⟩
  · simp [Oper.about, ho, resolve, Target.leads, Sem.run_pure]
  · rw [Oper.semAt_plain F _ _ (by rw [ho]; intro c hc'; cases hc')]
    simp [execOp, ho, resolve, invoke, builtin, hs, hx, hrun, Result.andThen]
    exact hK _ _ (h v' w' h2 h3 h4)

theorem grownBy_setCell' (w : World) (a : Addr) (v : Value) : w.grownBy (w.setCell a v) (some a.block) :=
  ⟨rfl, rfl, rfl, by simp [World.setCell], fun k hk hne => Below.heap_setCell _ _ _ _ (fun e => hne (by rw [e]))⟩

/-- what the caller knows between two rounds: l's cell, and its row -/
def AccI (w : World) (B : Nat) (pre : List St) (W : World) : Prop :=
  ∃ v, W.cell? ⟨w.heap.size, 0, none⟩ = some v ∧ W.frozen? ⟨w.heap.size, 0, none⟩ = false ∧ Owns W B 23 3 St.enc v pre ∧ Below w.heap.size w W

/-- what Merge returns -/
def mergeP (us vs : List St) : List St × Int := if validS us && validS vs then (mergeL us vs, 0) else ([], 80)

set_option maxRecDepth 100000 in
set_option maxHeartbeats 2000000 in
theorem Merge_any (us vs : List St) (A D : Option Addr) (c d : Nat) (w : World) (hx : Reads w w.heap.size A 3 St.enc us) (hy : Reads w w.heap.size D 3 St.enc vs) (h1 : us.length ≤ c) (h2 : vs.length ≤ d) (h3 : c ≤ maxLen) (h4 : d ≤ maxLen) (hm : us.length + vs.length ≤ 1000) :
    Calls Try.prog 22 #[.slice A us.length c, .slice D vs.length d] w fun e w' => (∃ v, e = .returned (.tuple #[v, .int .i64 (mergeP us vs).2]) ∧ Owns w' w.heap.size 23 3 St.enc v (mergeP us vs).1) ∧ Below w.heap.size w w' := by
  unfold maxLen at h3 h4
  have HX := Lib.hid hx
  have HY := Lib.hid hy
  clear hx hy
  cases hu : validS us
  · have hp : mergeP us vs = ([], 80) := by simp [mergeP, hu]
    rw [hp]
    have HU := Lib.hid hu
    clear hp hu
    go_enter Try.func22, Try.ntmps22
    go_wp2_with fail
    refine (valid_any us A c _ ((HX.out.below ((Below.refl _ _).alloc (Nat.le_refl _) _)).more (by simp)) (by omega)).mono ?_
    rw [HU.out]
    rintro e w1 ⟨rfl, hb1⟩
    have G1 := ((Below.refl w.heap.size w).alloc (Nat.le_refl _) (.cells #[.slice none 0 0] 33)).trans (hb1.mono (by simp))
    have G2 := G1
    obtain ⟨lc, lf, hlt2⟩ := below_at w.heap.size rfl hb1 (by simp)
    have l0 := lc 0
    have lf0 := lf 0
    simp at l0
    go_wp2_with fail
    exact bodyPost_ret (v := .tuple #[.slice none 0 0, .int .i64 80]) (by simp [results, Try.results22, go_sem, l0]) rfl ⟨⟨_, rfl, Owns.nil_ _ _ _ _ _⟩, G2.setCell (Nat.le_refl _) _⟩
  · cases hv : validS vs
    · have hp : mergeP us vs = ([], 80) := by simp [mergeP, hv]
      rw [hp]
      have HU := Lib.hid hu
      have HV := Lib.hid hv
      clear hp hu hv
      go_enter Try.func22, Try.ntmps22
      go_wp2_with fail
      refine (valid_any us A c _ ((HX.out.below ((Below.refl _ _).alloc (Nat.le_refl _) _)).more (by simp)) (by omega)).mono ?_
      rw [HU.out]
      rintro e w1 ⟨rfl, hb1⟩
      have G1 := ((Below.refl w.heap.size w).alloc (Nat.le_refl _) (.cells #[.slice none 0 0] 33)).trans (hb1.mono (by simp))
      go_wp2_with fail
      refine (valid_any vs D d _ ((HY.out.below G1).more G1.size) (by omega)).mono ?_
      rw [HV.out]
      rintro e w2 ⟨rfl, hb2⟩
      have G2 := G1.trans (hb2.mono G1.size)
      obtain ⟨lc, lf, hlt2⟩ := below_at w.heap.size rfl (hb1.trans (hb2.mono (by have := hb1.size; exact this))) (by simp)
      have l0 := lc 0
      have lf0 := lf 0
      simp at l0
      go_wp2_with fail
      exact bodyPost_ret (v := .tuple #[.slice none 0 0, .int .i64 80]) (by simp [results, Try.results22, go_sem, l0]) rfl ⟨⟨_, rfl, Owns.nil_ _ _ _ _ _⟩, G2.setCell (Nat.le_refl _) _⟩
    · have hp : mergeP us vs = (mergeL us vs, 0) := by simp [mergeP, hu, hv]
      rw [hp]
      have HU := Lib.hid hu
      have HV := Lib.hid hv
      clear hp hu hv
      refine (callsIn_wide (n := 6)).1 ?_
      refine callsIn_of_wp_marks Try.func22 rfl trivial ?_ rfl
      simp only [Try.ntmps22, List.size_toArray, List.length_cons, List.length_nil, Nat.reduceAdd, Nat.reduceSub, Array.replicate_succ, Array.replicate_zero, List.push_toArray, List.append_toArray, List.nil_append, List.cons_append]
      refine wpIn_wide.2 ?_
      go_wp2_with fail
      refine (valid_any us A c _ ((HX.out.below ((Below.refl _ _).alloc (Nat.le_refl _) _)).more (by simp)) (by omega)).mono ?_
      rw [HU.out]
      rintro e w1 ⟨rfl, hb1⟩
      have G1 := ((Below.refl w.heap.size w).alloc (Nat.le_refl _) (.cells #[.slice none 0 0] 33)).trans (hb1.mono (by simp))
      go_wp2_with fail
      refine (valid_any vs D d _ ((HY.out.below G1).more G1.size) (by omega)).mono ?_
      rw [HV.out]
      rintro e w2 ⟨rfl, hb2⟩
      have G2 := G1.trans (hb2.mono G1.size)
      go_wp2_with fail
      refine (both_any _ _ _ _ _ _ _).mono ?_
      rintro e w3 ⟨rfl, hw3⟩
      have hz1 : w.heap.size < w1.heap.size := by have := hb1.size; simp at this; omega
      have hz2 : w.heap.size < w2.heap.size := by have := hb2.size; omega
      obtain ⟨lc, lf, _⟩ := below_at w.heap.size rfl (hb1.trans (hb2.mono (by have := hb1.size; exact this))) (by simp)
      have l0 := lc 0
      have lf0 := lf 0
      simp at l0
      go_wp2_with fail
      refine (wpIn_wide (n := 5)).1 ?_
      refine abs_world ?_
      intro W3 hW3
      have e3 : W3.heap.size = w2.heap.size + 2 := by rw [hW3]; simp
      have c1 : W3.cell? ⟨w2.heap.size, 0, none⟩ = some (.slice A us.length c) := by rw [hW3]; simp [go_sem]
      have c2 : W3.cell? ⟨w2.heap.size + 1, 0, none⟩ = some (.slice D vs.length d) := by rw [hW3]; simp [go_sem]
      have f1 : W3.frozen? ⟨w2.heap.size, 0, none⟩ = false := by rw [hW3]; simp [go_sem]
      have f2 : W3.frozen? ⟨w2.heap.size + 1, 0, none⟩ = false := by rw [hW3]; simp [go_sem]
      have c3 : W3.cell? ⟨w.heap.size, 0, none⟩ = some (.slice none 0 0) := by rw [hW3]; simp [go_sem, l0, hz2]
      have f3 : W3.frozen? ⟨w.heap.size, 0, none⟩ = false := by rw [hW3]; simp [go_sem, lf0, hz2]
      have G3 : Below w.heap.size w W3 := by rw [hW3]; exact ((G2.alloc (by omega) _).alloc (by simp; omega) _)
      have HG3 := Lib.hid G3
      clear hW3 hw3 G1 G2 hb1 hb2 lc lf l0 lf0 G3
      refine wpIn_seq (α := St) rfl (by decide) (gf := 34) (lb := #[.pointer (some ⟨w2.heap.size, 0, none⟩), .pointer (some ⟨w2.heap.size + 1, 0, none⟩)]) rfl trivial (enters_of Try.func34 (by kernel_rfl) rfl)
        (own := fun b => b = w2.heap.size ∨ b = w2.heap.size + 1) (free := fun b => b = w.heap.size) (by rintro b (rfl | rfl) <;> omega)
        (both_iter W3 4 w.heap.size w2.heap.size (w2.heap.size + 1) (by omega) (by omega) (by omega) us vs (fun b => b = w.heap.size) (by rintro b rfl; omega) (by omega) A D c d c1 c2 f1 f2 h1 h2 h3 h4 (HX.out.below HG3.out) (HY.out.below HG3.out) (by omega) (by omega))
        (fun _ => rfl) (AccI w W3.heap.size) (fun _ _ _ => False) ?own (fun _ _ _ _ _ h _ _ => h) ?set (fun _ _ _ _ _ h _ => h) ⟨_, c3, f3, Owns.nil_ _ _ _ _ _, HG3.out⟩
        (fun x a' W => ∃ b, W3.heap.size ≤ b ∧ b < W.heap.size ∧ W.cell? ⟨b, 0, none⟩ = some (.int .i64 x.time) ∧ W.cell? ⟨b, 1, none⟩ = some (.int .i64 x.campus) ∧ W.cell? ⟨b, 2, none⟩ = some (.int .i64 x.no) ∧
          a' = { tmps := #[.slice A us.length c, .slice D vs.length d, undef, undef, .pointer (some ⟨w.heap.size, 0, none⟩), .int .i64 0, .pointer (some ⟨b, 0, none⟩), .slice A us.length c, .bool true, .bool false, .bool false, .slice D vs.length d, .bool true, .bool false, .bool false,
            .slice A us.length c, .slice D vs.length d, .func (.func 34) #[] #[.pointer (some ⟨w2.heap.size, 0, none⟩), .pointer (some ⟨w2.heap.size + 1, 0, none⟩)], x.v, undef, undef, undef, undef, undef], defers := [] }) ?Ax ?assign ?body ?done ?stop
      case own =>
        rintro pre W W' row ⟨v, hv, hf, ho, hb⟩ hg hr
        exact ⟨v, cell_kept hv hg (fun r e => (hr r e).2), (frozen_kept hv hg (fun r e => (hr r e).2)).trans hf, ho.kept hg (fun g hgo e => by
          obtain ⟨_, o, h1, h2⟩ := hr g e
          obtain ⟨o', h3, h4⟩ := ho.cells g hgo
          rw [h1] at h3
          cases h3
          rw [h2] at h4
          cases h4), hb.grown hg (by have := hb.size; omega) (fun k e => by have := (hr k e).1; omega)⟩
      case set =>
        rintro pre W ⟨b, o, s⟩ u ⟨v, hv, hf, ho, hb⟩ hown
        have hne : w.heap.size ≠ b := by simp at hown; omega
        refine ⟨v, ?_, ?_, ho.kept (row := some b) ?_ (fun g hg e => ?_), hb.setCell (by simp at hown ⊢; omega) _⟩
        · rw [World.cell?_setCell_other _ _ _ _ (by first | exact fun e => hne (congrArg Addr.block e) | exact fun e => hne (congrArg Addr.block e).symm)]; exact hv
        · rw [World.frozen?_setCell]; exact hf
        · exact grownBy_setCell' _ _ _
        · cases e
          have := ho.base_le b hg
          simp at hown; omega
      case Ax =>
        rintro x a' W L o o' ⟨b, h1, h2, h3, h4, h5, h6⟩ hL ho
        refine ⟨b, h1, by simpa using h2, cell_kept h3 (grownBy_putObj' _ L o') (fun r e => by cases e; exact ⟨_, hL, ho⟩), cell_kept h4 (grownBy_putObj' _ L o') (fun r e => by cases e; exact ⟨_, hL, ho⟩), cell_kept h5 (grownBy_putObj' _ L o') (fun r e => by cases e; exact ⟨_, hL, ho⟩), h6⟩
      case assign =>
        intro l pre x W K hi hpr hz hK
        simp only [St.v]
        gi_wp2
        refine hK _ _ (KeepsOthers.alloc _ _) (by go_grown) ⟨W.heap.size, hz, by simp, by simp [go_sem], by simp [go_sem], by simp [go_sem], rfl⟩
      case body =>
        rintro l pre x a' W ⟨v, hv, hf, ho, hbw⟩ hpr hz ⟨b, hb1, hb2, s0, s1, s2, rfl⟩
        simp only [St.v]
        obtain ⟨i0, hi0, hz0, hz1', hz2'⟩ := info_parts Try.infoSt
        have HI := Lib.hid hi0
        obtain ⟨Av, cv, rfl, _, _⟩ := ho.shape
        have HO := Lib.hid ho
        have hlen : pre.length + 1 ≤ us.length + vs.length := by
          obtain ⟨t, ht⟩ := hpr
          have h1 := length_mergeL us vs
          rw [← ht] at h1
          simp at h1; omega
        clear hi0 ho hpr
        gi_wp2_with (gi_at_builtin; refine stop_mk ?_)
        refine stop_out (wpListIn_append_reads (en := St.enc) (sz := 3) _ rfl _ _ _ rfl St.enc_len St.enc_one W3.heap.size 23 i0 _ 24 Try.underlying33 HI.out hz0 hz1' hz2' rfl (by omega) (.slice Av pre.length cv) pre rfl (HO.out.alloc _)
          (W.heap.size + 1) (some ⟨W.heap.size, 0, none⟩) 1 [x] rfl ?rd (fun h => by cases h) (by simp [maxLen]; omega) (by simp; omega) (by simp; omega) ?_)
        case rd =>
          exact reads_new W 3 St.enc [x] _ _ (by
            intro i y j u hi hj
            match i, j with
            | 0, 0 | 0, 1 | 0, 2 => simp at hi; subst hi; simpa [St.enc] using hj
            | 0, j + 3 => simp [St.enc] at hj
            | i + 1, j => simp at hi)
        intro v' w4 hown4 hg4 hat4
        obtain ⟨A4, c4, rfl, _, _⟩ := hown4.shape
        have hzw := hbw.size
        have hblk : w4.heap[w.heap.size]? = W.heap[w.heap.size]? := (hg4.block _ (by simp; omega) (fun e => by have := HO.out.base_le _ e.symm; omega)).trans (Below.heap_alloc _ _ _ (by omega))
        have k1 : w4.cell? ⟨w.heap.size, 0, none⟩ = some (.slice Av pre.length cv) := (World.cell?_of_block (a := ⟨w.heap.size, 0, none⟩) hblk).trans hv
        have k2 : w4.frozen? ⟨w.heap.size, 0, none⟩ = false := (World.frozen?_of_block (a := ⟨w.heap.size, 0, none⟩) hblk).trans hf
        have HG4 := Lib.hid hg4
        have HO4 := Lib.hid hown4
        clear hown4 hg4 hat4 hblk
        gi_wp2
        have o4 := HO4.out
        have sz4 := HG4.out.size
        simp at sz4
        have hkp : Keep W3.heap.size (fun b => b = w.heap.size) W (w4.setCell ⟨w.heap.size, 0, none⟩ (.slice A4 (pre.length + 1) c4)) :=
          Keep.setCell (free := fun b => b = w.heap.size) (((Keep.refl _ _ _).alloc (by omega) _).grown HG4.out (by simp; omega) (fun k e => .inr (HO.out.base_le k e))) (a := ⟨w.heap.size, 0, none⟩) (.inl rfl) _
        refine ⟨((KeepsOthers.alloc W _).trans (KeepsOthers.of_grownBy HG4.out (fun j o hj ho => ?_))).trans (KeepsOthers.setCell _ _ _), hkp,
          _, ?_, ?_, o4.kept (row := some w.heap.size) (grownBy_setCell' _ _ _) (fun g hg e => ?_), ((hbw.alloc hzw _).grown HG4.out (by simp; omega) (fun k e => by have := HO.out.base_le k e; omega)).setCell (Nat.le_refl _) _⟩
        · obtain ⟨o', h3, h4⟩ := (HO.out.alloc _).cells j hj
          rw [ho] at h3
          cases h3
          exact h4
        · have h := World.cell?_setCell_same' w4 ⟨w.heap.size, 0, none⟩ (.slice A4 (pre.length + 1) c4) (by rw [k1]; rfl)
          simpa using h
        · rw [World.frozen?_setCell]; exact k2
        · cases e
          have := o4.base_le _ hg
          omega
      case done =>
        rintro D' xs W hD rfl ⟨v, hv, hf, ho, hbw⟩ hK
        obtain ⟨Av, cv, rfl, _, _⟩ := ho.shape
        have HO := Lib.hid ho
        have HK := Lib.hid hK
        clear ho hK
        gi_wp2
        go_wp2_with fail
        have hK' := (KeepsOthers.setCell W ⟨w.heap.size, 0, none⟩ (.slice Av (mergeL us vs).length cv)).same D' _ HK.out rfl
        refine ⟨by simp, .inl ⟨_, _, rfl, run_takeDeferred hK', ?_⟩⟩
        have hc5 := cell_kept (World.cell?_setCell_same' W ⟨w.heap.size, 0, none⟩ (.slice Av (mergeL us vs).length cv) (by rw [hv]; rfl)) (grownBy_putObj' _ D' (.deferred none)) (fun r e => by cases e; exact ⟨_, hK', rfl⟩)
        have hzw := hbw.size
        refine ⟨.tuple #[.slice Av (mergeL us vs).length cv, .int .i64 0], by simp [results, Try.results22, go_sem, hc5], ⟨_, rfl, ?_⟩, ?_⟩
        · refine ((HO.out.kept (grownBy_setCell' _ ⟨w.heap.size, 0, none⟩ _) (fun g hg e => ?_)).kept (grownBy_putObj' _ D' (.deferred none)) (fun g hg e => ?_)).base (by omega)
          · cases e
            have := HO.out.base_le _ hg
            simp at this
            omega
          · cases e
            obtain ⟨o', h3, h4⟩ := HO.out.cells _ hg
            rw [HK.out] at h3
            cases h3
            cases h4
        · exact (hbw.setCell (Nat.le_refl _) _).grown (grownBy_putObj' _ D' (.deferred none)) (by simp; omega) (fun k e => by cases e; omega)
      case stop =>
        rintro D c pre W _ _ h _
        exact h.elim
end Go.Proofs.Ytplfeelcijnkjaa
