/- perform. -/
import Derived.Test.YtgbkhmoplocmkaaDskK
namespace Go.Proofs.Ytgbkhmoplocmkaa
open Go.RowKit Go.Shelf
set_option linter.unusedSimpArgs false
set_option linter.unusedVariables false
set_option maxRecDepth 20000

theorem heap_set {w : World} {g i : Nat} {cur : Array Value} {t : TypeId} {fz : Nat × Nat} (v : Value) (h : w.heap[g]? = some (.cells cur t fz)) : (w.setCell ⟨g, i, none⟩ v).heap[g]? = some (.cells (cur.setIfInBounds i v) t fz) := by
  simp [World.setCell, Array.getElem?_modify, h]
theorem flat_set (ys : List Sl) (i : Nat) (y : Sl) : (ys.set i y).flatMap slE = (ys.flatMap slE).set i (.slice y.a y.n y.c) := by
  induction ys generalizing i with
  | nil => simp
  | cons z zs ih =>
    cases i with
    | zero => simp [slE]
    | succ i => simp only [List.set_cons_succ, List.flatMap_cons, ih]; rfl
/-- one header written into a row of headers -/
theorem Owns.set1 {w : World} {base : Nat} {t : TypeId} {g n c i : Nat} {ys : List Sl} (h : Owns w base t 1 slE (.slice (some ⟨g, 0, none⟩) n c) ys) (y : Sl) :
    Owns (w.setCell ⟨g, i, none⟩ (.slice y.a y.n y.c)) base t 1 slE (.slice (some ⟨g, 0, none⟩) n c) (ys.set i y) := by
  obtain ⟨h1, h2⟩ := h
  refine ⟨by rw [flat_set, List.length_set, h1, List.length_set], ?_⟩
  rcases h2 with ⟨h3, _⟩ | ⟨g', cap, cur, h3, h4, h5, h6, h7, h8, h9⟩
  · cases h3
  · simp only [Value.slice.injEq, Option.some.injEq, Addr.mk.injEq] at h3
    obtain ⟨⟨rfl, _⟩, h10, rfl⟩ := h3
    refine .inr ⟨g, c, cur.setIfInBounds i (.slice y.a y.n y.c), by rw [List.length_set, h10], h4, heap_set _ h5, by rw [List.length_set]; exact h6, h7, by simp [h8], ?_⟩
    rw [flat_set, List.length_set, Array.toList_setIfInBounds, ← h9, List.take_set]
theorem Owns.cell1 {w : World} {base : Nat} {t : TypeId} {A : Option Addr} {n c i : Nat} {ys : List Sl} (h : Owns w base t 1 slE (.slice A n c) ys) (hi : i < ys.length) :
    ∃ g y, A = some ⟨g, 0, none⟩ ∧ base ≤ g ∧ g < w.heap.size ∧ ys[i]? = some y ∧ w.cell? ⟨g, i, none⟩ = some (.slice y.a y.n y.c) ∧ w.frozen? ⟨g, i, none⟩ = false := by
  have hr := h.reads slE_len
  obtain ⟨b, off, x, ha, hb, hx, hc⟩ := hr.at_ hi
  have c0 := hc 0 _ rfl
  simp only [Nat.mul_one, Nat.add_zero] at c0
  rcases h.2 with ⟨h3, h4⟩ | ⟨g', cap, cur, h3, h4, h5, h6, h7, h8, h9⟩
  · omega
  · simp only [Value.slice.injEq] at h3
    obtain ⟨rfl, rfl, rfl⟩ := h3
    simp only [Option.some.injEq, Addr.mk.injEq] at ha
    obtain ⟨rfl, rfl, _⟩ := ha
    rw [Nat.zero_add] at c0
    exact ⟨g', x, rfl, h4, hb, hx, c0, by simp [World.frozen?, h5]⟩

theorem perform_len (ss : List (List Int)) (l : List (Int × List Int)) : (performD ss l).length = ss.length := by
  unfold performD
  induction l generalizing ss with
  | nil => rfl
  | cons p l ih => simp only [List.foldl_cons]; rw [ih]; simp
theorem perform_snoc {ss : List (List Int)} {l : List (Int × List Int)} {k : Nat} {p : Int × List Int} (h : l[k]? = some p) : performD ss (l.take (k + 1)) = (performD ss (l.take k)).set p.1.toNat p.2 := by
  rw [take_at h]
  simp [performD, List.foldl_append]

/-- headers that read as sectors -/
def HS (w : World) (P : Nat → Prop) (vs : List Sl) (ss : List (List Int)) : Prop := vs.length = ss.length ∧ ∀ (i : Nat) (v : Sl) (bs : List Int), vs[i]? = some v → ss[i]? = some bs → By w P v bs
theorem HS.set {w : World} {P : Nat → Prop} {vs : List Sl} {ss : List (List Int)} (h : HS w P vs ss) (i : Nat) {v : Sl} {bs : List Int} (hb : By w P v bs) : HS w P (vs.set i v) (ss.set i bs) := by
  refine ⟨by simp [h.1], fun j u cs hu hc => ?_⟩
  rw [List.getElem?_set] at hu hc
  by_cases e : i = j
  · subst e
    simp only [if_true] at hu hc
    by_cases hl : i < vs.length
    · rw [if_pos hl] at hu
      rw [if_pos (by rw [← h.1]; exact hl)] at hc
      cases hu; cases hc
      exact hb
    · rw [if_neg hl] at hu; cases hu
  · rw [if_neg e] at hu hc
    exact h.2 j u cs hu hc
theorem HS.step {w w' : World} {P : Nat → Prop} {vs : List Sl} {ss : List (List Int)} (h : HS w P vs ss) (hb : Below w.heap.size w w') : HS w' P vs ss := ⟨h.1, fun i v bs a b => (h.2 i v bs a b).step hb⟩
theorem HS.mono {w : World} {P Q : Nat → Prop} {vs : List Sl} {ss : List (List Int)} (h : HS w P vs ss) (hq : ∀ b, P b → Q b) : HS w Q vs ss := ⟨h.1, fun i v bs a b => (h.2 i v bs a b).mono hq⟩
theorem HS.mono2 {w : World} {P Q : Nat → Prop} {vs : List Sl} {ss : List (List Int)} (h : HS w P vs ss) (hq : ∀ b, P b → b < w.heap.size → Q b) : HS w Q vs ss := ⟨h.1, fun i v bs a b => (h.2 i v bs a b).mono2 hq⟩

set_option maxRecDepth 100000 in
set_option maxHeartbeats 4000000 in
theorem perform_any {P : Nat → Prop} (ss : List (List Int)) (ps : List (Int × List Int)) (sv pv : Sl) (w : World) (h : Se w P sv ss) (h2 : Pe w P pv ps) (hl : ss.length ≤ 100000) (hin : ∀ p ∈ ps, 0 ≤ p.1 ∧ p.1 < (ss.length : Int)) :
    Calls Try.prog 54 #[.slice sv.a sv.n sv.c, .slice pv.a pv.n pv.c] w fun e w' => (∃ A c vs, e = .returned (.slice A ss.length c) ∧ Owns w' w.heap.size 35 1 slE (.slice A ss.length c) vs ∧ HS w P vs (performD ss ps)) ∧ Below w.heap.size w w' := by
  have hp := h2.len
  have hs := h.len
  obtain ⟨vs, hvs, hvl, hvb⟩ := h
  have HVS := Lib.hid hvs
  have HP := Lib.hid h2
  have HH : Hid (HS w P vs ss) := Lib.hid ⟨hvl, hvb⟩
  have HIN := Lib.hid hin
  have hvl2 : vs.length ≤ 100000 := by omega
  have HVL := Lib.hid hvl
  have CL := Lib.hid (cloneS_any vs sv w hvs hvl2)
  obtain ⟨A, n, c⟩ := sv
  obtain ⟨D, m, c2⟩ := pv
  simp only at hs hp CL
  subst hs hp
  simp only
  have hpm : ps.length ≤ 9223372036854775807 := by
    obtain ⟨us, hu1, hu2, _⟩ := HP.out
    have := hu1.le; omega
  clear hvs hvb hin hvl h2 hvl2
  go_enter Try.func54, Try.ntmps54
  go_wp2_with fail
  refine CL.out.mono ?_
  rintro e w1 ⟨⟨A1, n1, c1, rfl, ho1⟩, hb1⟩
  obtain ⟨A1', c1', hsh, _, _⟩ := ho1.shape
  simp only [Value.slice.injEq] at hsh
  obtain ⟨rfl, rfl, rfl⟩ := hsh
  rw [HVL.out] at ho1 ⊢
  have HO1 := Lib.hid ho1
  have HB1 := Lib.hid hb1
  clear ho1 hb1
  go_wp2_with fail
  go_loopw [12] (fun i wr => ∃ (k : Nat) (us : List Sl), k ≤ ps.length ∧ i = .int .i64 k ∧ Owns wr w.heap.size 35 1 slE (.slice A1 ss.length c1) us ∧ HS w P us (performD ss (ps.take k)) ∧ Below w.heap.size w wr) (fun i _ => ps.length - (intOf i).toNat)
  case atStart => exact ⟨0, vs, Nat.zero_le _, rfl, HO1.out, by simpa [performD] using HH.out, HB1.out⟩
  case round =>
    obtain ⟨k, us, hk, rfl, hou, hus, hbr⟩ := hrel
    have HOU := Lib.hid hou
    have HUS := Lib.hid hus
    have HBR := Lib.hid hbr
    have hzr := hbr.size
    clear hou hus hbr
    by_cases hlt : k < ps.length
    · obtain ⟨bb, off, v, p, ha, hbl, hpk, hby, y0, y1⟩ := (HP.out.step HBR.out).at_ hlt
      obtain ⟨_, _, v', p', ha', _, hpk', hby', z0, z1⟩ := HP.out.at_ hlt
      simp only at ha ha'
      subst ha
      simp only [Option.some.injEq, Addr.mk.injEq] at ha'
      obtain ⟨rfl, rfl, _⟩ := ha'
      have hpp : p = p' := by rw [hpk] at hpk'; exact Option.some.inj hpk'
      subst hpp
      have hbw := (Array.getElem?_eq_some_iff.1 (show w.heap[bb]? = some (w.heap[bb]'(cell_lt' z0)) from Array.getElem?_eq_getElem _)).1
      have q1 := (HBR.out.cell (p := ⟨bb, off + k * 2 + 1, none⟩) hbw).trans z1
      rw [y1] at q1
      simp only [Option.some.injEq, Value.slice.injEq] at q1
      obtain ⟨e1, e2, e3⟩ := q1
      have hvv : v = v' := by cases v; cases v'; simp only at e1 e2 e3; subst e1 e2 e3; rfl
      subst hvv
      obtain ⟨j, hj⟩ : ∃ j : Nat, p.1 = (j : Int) := ⟨p.1.toNat, by have := (HIN.out p (List.mem_of_getElem? hpk)).1; omega⟩
      have hjl : j < ss.length := by have := (HIN.out p (List.mem_of_getElem? hpk)).2; omega
      have hul : us.length = ss.length := by rw [HUS.out.1, perform_len]
      obtain ⟨g, y, rfl, hgb, hgl, _, c0, f0⟩ := HOU.out.cell1 (i := j) (by omega)
      rw [hj] at y0
      have HPK := Lib.hid hpk
      have HBY := Lib.hid hby'
      have HJ := Lib.hid hj
      have HUL := Lib.hid hul
      clear hpk hpk' hby hby' z0 z1 e1 e2 e3 hul
      have hj0 : (0 : Int) ≤ (j : Int) := by omega
      go_wp2_with fail
      go_roundw
      case rel =>
        refine ⟨k + 1, us.set j v, by omega, by go_num, ?_, ?_, ?_⟩
        · exact (HOU.out.set1 v).alloc _
        · rw [perform_snoc HPK.out, HJ.out, Int.toNat_natCast]; exact HUS.out.set j HBY.out
        · exact (HBR.out.setCell (show w.heap.size ≤ (⟨g, j, none⟩ : Addr).block from hgb) _).alloc (by simpa [World.setCell] using hzr) _
      case measure => simp [intOf]; omega
    · obtain rfl : k = ps.length := by omega
      have hus := HUS.out
      rw [List.take_length] at hus
      have HU2 := Lib.hid hus
      clear hus
      go_wp2_with fail
      go_ret
      exact ⟨⟨A1, c1, us, rfl, HOU.out, HU2.out⟩, HBR.out⟩
end Go.Proofs.Ytgbkhmoplocmkaa
