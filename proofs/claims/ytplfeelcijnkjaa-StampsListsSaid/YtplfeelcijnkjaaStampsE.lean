/- Merge's iterator: it yields the stamps of two lists in order, each once. -/
import Derived.Test.YtplfeelcijnkjaaStampsM
import Derived.Test.YtplfeelcijnkjaaSeq
import Derived.StillTailTactics
import Derived.RegionTactic
import Derived.BigRegion
namespace Go.Proofs.Ytplfeelcijnkjaa
open Go.RowKit Go.Shelf
set_option linter.unusedSimpArgs false
set_option linter.unusedVariables false
attribute [local go_sem] Oper.semAt_some

theorem reads_same {α : Type} {w w' : World} {B sz : Nat} {A : Option Addr} {enc : α → List Value} {xs : List α} (h : Reads w B A sz enc xs) (hk : ∀ b, b < B → w'.heap[b]? = w.heap[b]?) : Reads w' B A sz enc xs := fun hn => by
  obtain ⟨b, off, e, hlt, hc⟩ := h hn
  exact ⟨b, off, e, hlt, fun i x j v hi hj => (World.cell?_of_block (a := ⟨b, _, none⟩) (hk b hlt)).trans (hc i x j v hi hj)⟩
theorem reads_tail_off {α : Type} {w : World} {B sz b off : Nat} {enc : α → List Value} {x : α} {xs : List α} (h : Reads w B (some ⟨b, off, none⟩) sz enc (x :: xs)) : Reads w B (some ⟨b, off + sz, none⟩) sz enc xs := fun _ => by
  obtain ⟨b', off', e, hlt, hc⟩ := h (by simp)
  simp only [Option.some.injEq, Addr.mk.injEq, and_true] at e
  obtain ⟨rfl, rfl⟩ := e
  refine ⟨b, off + sz, rfl, hlt, fun i y j v hi hj => ?_⟩
  have := hc (i + 1) y j v (by simpa using hi) hj
  rw [Nat.add_mul, Nat.one_mul] at this
  rw [← this]
  congr 2
  omega

theorem drew_heap (w : World) : w.drew.heap = w.heap := rfl
theorem abs_world {F : Fence} {n : Nat} {P : Program} {Q : Exit → Act → World → Prop} {c : Code} {a : Act} {w : World} (h : ∀ W, W = w → c.wpIn F n P Q a W) : c.wpIn F n P Q a w := h w rfl

def lenV : Option Value → Nat
  | some (.slice _ n _) => n
  | _ => 0

/-- the address of x[1:] -/
def tailA (A : Option Addr) (c : Nat) : Option Addr := if c = 1 then A else A.map (·.add 3)
theorem run_tail (A : Option Addr) (n c : Nat) (W : World) :
    (Instr.slice 33 (.slice A (n + 1) c) (some (.int .i64 1)) none none).run Try.prog W = .ok (.slice (tailA A c) n (c - 1)) W := by
  obtain ⟨i, hi, hs⟩ := Option.map_eq_some_iff.1 (show (Try.prog.info? 23).map (·.size) = some 3 by kernel_rfl)
  rw [run_slice_from Try.underlying33 hi A (n + 1) c .i64 1 (by decide) (by omega) W, hs]
  rfl
theorem reads_tail {w : World} {B c : Nat} {A : Option Addr} {x : St} {xs : List St} (h : Reads w B A 3 St.enc (x :: xs)) (hc : xs.length + 1 ≤ c) : Reads w B (tailA A c) 3 St.enc xs := by
  have := h.drop (k := 1) (c := c) (by simp) (by simpa using hc)
  simpa [tailA] using this

section
variable (w0 : World) (n₀ Ba Bb : Nat) (us vs : List St) (J : List St → World → Prop)

/-- where the iterator stands at the head of its loop -/
def BothAt (wr : World) : Prop :=
  ∃ (pre xs ys : List St) (A D : Option Addr) (c d : Nat), J pre wr ∧ pre ++ mergeL xs ys = mergeL us vs ∧
    wr.cell? ⟨Ba, 0, none⟩ = some (.slice A xs.length c) ∧ wr.cell? ⟨Bb, 0, none⟩ = some (.slice D ys.length d) ∧ wr.frozen? ⟨Ba, 0, none⟩ = false ∧ wr.frozen? ⟨Bb, 0, none⟩ = false ∧
    xs.length ≤ c ∧ ys.length ≤ d ∧ c ≤ 9223372036854775807 ∧ d ≤ 9223372036854775807 ∧ Reads w0 n₀ A 3 St.enc xs ∧ Reads w0 n₀ D 3 St.enc ys ∧ (∀ b, b < n₀ → wr.heap[b]? = w0.heap[b]?) ∧
    Ba < wr.heap.size ∧ Bb < wr.heap.size

theorem both_after {w0 : World} {n₀ Ba Bb : Nat} {us vs : List St} {J : List St → World → Prop} {free : Nat → Prop} {W W' : World} {pre xs ys : List St} {s : St} {A D : Option Addr} {c d : Nat}
    (hfree : ∀ b, free b → n₀ ≤ b ∧ b ≠ Ba ∧ b ≠ Bb) (hn : n₀ ≤ w0.heap.size) (ha : Ba < w0.heap.size) (hb : Bb < w0.heap.size) (za : Ba < W.heap.size) (zb : Bb < W.heap.size)
    (hk : Keep w0.heap.size free W W') (hj : J (pre ++ [s]) W') (hm : pre ++ s :: mergeL xs ys = mergeL us vs)
    (h1 : W.cell? ⟨Ba, 0, none⟩ = some (.slice A xs.length c)) (h2 : W.cell? ⟨Bb, 0, none⟩ = some (.slice D ys.length d)) (h3 : W.frozen? ⟨Ba, 0, none⟩ = false) (h4 : W.frozen? ⟨Bb, 0, none⟩ = false)
    (h5 : xs.length ≤ c) (h6 : ys.length ≤ d) (h7 : c ≤ 9223372036854775807) (h8 : d ≤ 9223372036854775807) (h9 : Reads w0 n₀ A 3 St.enc xs) (h10 : Reads w0 n₀ D 3 St.enc ys) (h11 : ∀ b, b < n₀ → W.heap[b]? = w0.heap[b]?) :
    BothAt w0 n₀ Ba Bb us vs J W' ∧ lenV (W'.cell? ⟨Ba, 0, none⟩) + lenV (W'.cell? ⟨Bb, 0, none⟩) = xs.length + ys.length := by
  have fa : ¬ free Ba := fun h => (hfree _ h).2.1 rfl
  have fb : ¬ free Bb := fun h => (hfree _ h).2.2 rfl
  have k1 := hk.1
  have e1 := hk.cell (a := ⟨Ba, 0, none⟩) ha fa
  have e2 := hk.cell (a := ⟨Bb, 0, none⟩) hb fb
  refine ⟨⟨pre ++ [s], xs, ys, A, D, c, d, hj, by simpa using hm, e1.trans h1, e2.trans h2, (hk.frozen (a := ⟨Ba, 0, none⟩) ha fa).trans h3, (hk.frozen (a := ⟨Bb, 0, none⟩) hb fb).trans h4,
    h5, h6, h7, h8, h9, h10, fun b hb' => (hk.2 b (by omega) (fun h => by have := (hfree _ h).1; omega)).trans (h11 b hb'), by omega, by omega⟩, ?_⟩
  rw [e1, e2, h1, h2]
  rfl
end

set_option maxRecDepth 100000 in
set_option maxHeartbeats 4000000 in
theorem both_iter (w : World) (n : Nat) (n₀ Ba Bb : Nat) (hBa : n₀ ≤ Ba) (hBb : n₀ ≤ Bb) (hne : Ba ≠ Bb) (us vs : List St) (free : Nat → Prop) (hfree : ∀ b, free b → n₀ ≤ b ∧ b ≠ Ba ∧ b ≠ Bb) (hn : n₀ ≤ w.heap.size)
    (A D : Option Addr) (c d : Nat) (h1 : w.cell? ⟨Ba, 0, none⟩ = some (.slice A us.length c)) (h2 : w.cell? ⟨Bb, 0, none⟩ = some (.slice D vs.length d)) (h3 : w.frozen? ⟨Ba, 0, none⟩ = false) (h4 : w.frozen? ⟨Bb, 0, none⟩ = false)
    (h5 : us.length ≤ c) (h6 : vs.length ≤ d) (h7 : c ≤ 9223372036854775807) (h8 : d ≤ 9223372036854775807) (h9 : Reads w n₀ A 3 St.enc us) (h10 : Reads w n₀ D 3 St.enc vs) (h11 : Ba < w.heap.size) (h12 : Bb < w.heap.size) :
    Iter Fence.wide n Try.prog 34 #[.pointer (some ⟨Ba, 0, none⟩), .pointer (some ⟨Bb, 0, none⟩)] (fun x : St => #[x.v]) (fun b => b = Ba ∨ b = Bb) (Keep w.heap.size free)
      (fun xs => xs = mergeL us vs) (fun _ => True) (fun xs => ∃ t, xs ++ t = mergeL us vs) w := by
  intro l J Jx W hW hJ hJx hY h0
  refine callsIn_wide.2 ?_
  simp only [List.append_toArray, List.cons_append, List.nil_append]
  have hst : BothAt w n₀ Ba Bb us vs J W := by
    refine ⟨[], us, vs, A, D, c, d, h0, rfl, (hW.cell (p := ⟨Ba, 0, none⟩) h11).trans h1, (hW.cell (p := ⟨Bb, 0, none⟩) h12).trans h2, (hW.frozen (p := ⟨Ba, 0, none⟩) h11).trans h3, (hW.frozen (p := ⟨Bb, 0, none⟩) h12).trans h4, h5, h6, h7, h8, h9, h10, fun b hb => hW.block b (by omega), Nat.lt_of_lt_of_le h11 hW.size, Nat.lt_of_lt_of_le h12 hW.size⟩
  have hJa := fun pre W W' => hJ.1 pre W W'
  have HJ := Lib.hid hJ
  have HY := Lib.hid hY
  have HST := Lib.hid hst
  have h11w := h11
  have h12w := h12
  clear h1 h2 h3 h4 h5 h6 h7 h8 h9 h10 h0 hJ hY hst hJa A D c d h11 h12
  go_enter Try.func34, Try.ntmps34
  go_wp2_with fail
  go_loopw [5] (fun _ wr => BothAt w n₀ Ba Bb us vs J wr) (fun _ wr => lenV (wr.cell? ⟨Ba, 0, none⟩) + lenV (wr.cell? ⟨Bb, 0, none⟩))
  case atStart => exact HST.out
  case round =>
    obtain ⟨pre, xs, ys, A, D, c, d, hj, hm, h1, h2, h3, h4, h5, h6, h7, h8, h9, h10, h11, h12, h13⟩ := hrel
    have HM := Lib.hid hm
    have HS := Lib.hid h11
    have HXw := Lib.hid h9
    have HYw := Lib.hid h10
    have HXr := Lib.hid (reads_same h9 h11)
    have HYr := Lib.hid (reads_same h10 h11)
    have HJ1 := Lib.hid hj
    clear hm h11 h9 h10 hj
    rcases xs with _ | ⟨x, xs⟩
    · rcases ys with _ | ⟨y, ys⟩
      · go_wp2_with fail
        go_end0
        have he := HM.out
        rw [mergeL_nil, List.append_nil] at he
        exact ⟨⟨_, rfl⟩, .inl ⟨pre, he, HJ1.out⟩⟩
      · obtain ⟨bb, ob, rfl, hbb, hcb⟩ := HYr.out (by simp)
        have b0 := hcb 0 y 0 _ rfl rfl
        have b1 := hcb 0 y 1 _ rfl rfl
        have b2 := hcb 0 y 2 _ rfl rfl
        simp only [Nat.zero_mul, Nat.add_zero] at b0 b1 b2
        simp only [List.length_cons, List.length_nil] at h1 h2 h5 h6
        clear hcb
        have hbb2 : bb < wr.heap.size := by omega
        have q1 : (((ys.length : Int) + 1) == 0) = false := by simp; omega
        have hsl := fun W => run_tail (some ⟨bb, ob, none⟩) ys.length d W
        go_wp2_with fail
        go_region
        go_wp2_with fail
        go_region
        go_wp2_with fail
        go_region
        first | (rename_i hK; refine hK _ _ ?_) | (rename_i hK _; refine hK _ _ ?_) | (rename_i hK _ _; refine hK _ _ ?_) | (rename_i hK _ _ _; refine hK _ _ ?_) | (rename_i hK _ _ _ _; refine hK _ _ ?_) | (rename_i hK _ _ _ _ _; refine hK _ _ ?_) | (rename_i hK _ _ _ _ _ _; refine hK _ _ ?_) | (rename_i hK _ _ _ _ _ _ _; refine hK _ _ ?_) | (rename_i hK _ _ _ _ _ _ _ _; refine hK _ _ ?_) | (rename_i hK _ _ _ _ _ _ _ _ _; refine hK _ _ ?_) | (rename_i hK _ _ _ _ _ _ _ _ _ _; refine hK _ _ ?_) | (rename_i hK _ _ _ _ _ _ _ _ _ _ _; refine hK _ _ ?_) | (rename_i hK _ _ _ _ _ _ _ _ _ _ _ _; refine hK _ _ ?_) | (rename_i hK _ _ _ _ _ _ _ _ _ _ _ _ _; refine hK _ _ ?_) | (rename_i hK _ _ _ _ _ _ _ _ _ _ _ _ _ _; refine hK _ _ ?_) | (rename_i hK _ _ _ _ _ _ _ _ _ _ _ _ _ _ _; refine hK _ _ ?_) | (rename_i hK _ _ _ _ _ _ _ _ _ _ _ _ _ _ _ _; refine hK _ _ ?_) | (rename_i hK _ _ _ _ _ _ _ _ _ _ _ _ _ _ _ _ _; refine hK _ _ ?_) | (rename_i hK _ _ _ _ _ _ _ _ _ _ _ _ _ _ _ _ _ _; refine hK _ _ ?_) | (rename_i hK _ _ _ _ _ _ _ _ _ _ _ _ _ _ _ _ _ _ _; refine hK _ _ ?_) | (rename_i hK _ _ _ _ _ _ _ _ _ _ _ _ _ _ _ _ _ _ _ _; refine hK _ _ ?_) | (rename_i hK _ _ _ _ _ _ _ _ _ _ _ _ _ _ _ _ _ _ _ _ _; refine hK _ _ ?_) | (rename_i hK _ _ _ _ _ _ _ _ _ _ _ _ _ _ _ _ _ _ _ _ _ _; refine hK _ _ ?_) | (rename_i hK _ _ _ _ _ _ _ _ _ _ _ _ _ _ _ _ _ _ _ _ _ _ _; refine hK _ _ ?_)
        refine (wpIn_wide (n := n)).1 ?_
        refine abs_world ?_
        intro Wb hWb
        have hJd : ∀ pre W, J pre W → J pre W.drew := fun pre W h => HJ.out.1 pre _ _ h (Below.refl _ _).drew
        have e3 := HJ.out.2 pre _ ⟨Bb, 0, none⟩ (.slice (tailA (some ⟨bb, ob, none⟩) d) ys.length (d - 1)) HJ1.out (.inr rfl)
        have e4 := HJ.out.1 pre _ _ e3 ((Below.refl _ _).alloc (Nat.le_refl _) (.cells #[.int .i64 y.time, .int .i64 y.campus, .int .i64 y.no] 23))
        have hjb : J pre Wb := by rw [hWb]; with_reducible (first | exact e4 | exact hJd _ _ e4 | exact hJd _ _ (hJd _ _ e4) | exact hJd _ _ (hJd _ _ (hJd _ _ e4)) | exact hJd _ _ (hJd _ _ (hJd _ _ (hJd _ _ e4))))
        have hlow : ∀ b, b < n₀ → Wb.heap[b]? = w.heap[b]? := fun b hb => by rw [hWb]; simp only [drew_heap]; exact ((Below.heap_alloc _ _ _ (by simp; omega)).trans (Below.heap_setCell _ _ _ b (by simp; omega))).trans (HS.out b hb)
        have e1 : wr.heap.size + 1 = Wb.heap.size := by rw [hWb]; simp
        have n1 : ¬ wr.heap.size = Ba := by omega
        have n2 : ¬ wr.heap.size = Bb := by omega
        have n3 : ¬ Ba = wr.heap.size := by omega
        have n4 : ¬ Bb = wr.heap.size := by omega
        have n5 : ¬ Bb = Ba := fun e => hne e.symm
        have y1 : Wb.cell? ⟨Ba, 0, none⟩ = some (.slice A ([] : List St).length c) := by rw [hWb]; simp [go_sem, h1, h2, h3, h4, h12, h13, n1, n2, n3, n4, n5, hne]
        have y2 : Wb.cell? ⟨Bb, 0, none⟩ = some (.slice (tailA (some ⟨bb, ob, none⟩) d) ys.length (d - 1)) := by rw [hWb]; simp [go_sem, h1, h2, h3, h4, h12, h13, n1, n2, n3, n4, n5, hne]
        have y3 : Wb.frozen? ⟨Ba, 0, none⟩ = false := by rw [hWb]; simp [go_sem, h1, h2, h3, h4, h12, h13, n1, n2, n3, n4, n5, hne]
        have y4 : Wb.frozen? ⟨Bb, 0, none⟩ = false := by rw [hWb]; simp [go_sem, h1, h2, h3, h4, h12, h13, n1, n2, n3, n4, n5, hne]
        have y5 : Wb.cell? ⟨wr.heap.size, 0, none⟩ = some (.int .i64 y.time) := by rw [hWb]; simp [go_sem, h1, h2, h3, h4, h12, h13, n1, n2, n3, n4, n5, hne]
        have y6 : Wb.cell? ⟨wr.heap.size, 1, none⟩ = some (.int .i64 y.campus) := by rw [hWb]; simp [go_sem, h1, h2, h3, h4, h12, h13, n1, n2, n3, n4, n5, hne]
        have y7 : Wb.cell? ⟨wr.heap.size, 2, none⟩ = some (.int .i64 y.no) := by rw [hWb]; simp [go_sem, h1, h2, h3, h4, h12, h13, n1, n2, n3, n4, n5, hne]
        have zz1 : Ba < Wb.heap.size := by omega
        have zz2 : Bb < Wb.heap.size := by omega
        have hmm := HM.out
        rw [mergeL_right] at hmm
        have HMM := Lib.hid hmm
        have HLOW := Lib.hid hlow
        obtain ⟨fn, tmps, assign, body, hy, hR⟩ := HY.out pre y Wb hjb ⟨mergeL ([] : List St) ys, by have h := HMM.out; simpa using h⟩
        simp only [St.v] at hy
        clear e1 hWb hlow hmm hJd
        gi_wp2
        refine ⟨fun h => (by cases h), hR.mono ?_⟩
        rintro e W3 (⟨rfl, hJ3, hk3⟩ | ⟨rfl, hJx3⟩)
        · have hat := both_after (xs := ([] : List St)) (ys := ys) (s := y) hfree hn h11w h12w zz1 zz2 hk3 hJ3 HMM.out y1 y2 y3 y4 (by first | omega | (simp only [List.length_cons, List.length_nil]; omega)) (by first | omega | (simp only [List.length_cons, List.length_nil]; omega)) (by omega) (by omega) HXw.out (reads_tail HYw.out (by omega)) HLOW.out
          gi_wp2
          go_roundw
          case rel => exact hat.1
          case measure => rw [hat.2, h1, h2]; simp only [lenV, List.length_cons, List.length_nil]; omega
        · gi_wp2
          refine bodyPost_ret (results_none rfl _ _ _) rfl ?_
          exact ⟨⟨_, rfl⟩, .inr ⟨_, trivial, hJx3⟩⟩
    · rcases ys with _ | ⟨y, ys⟩
      · obtain ⟨ba, oa, rfl, hba, hca⟩ := HXr.out (by simp)
        have a0 := hca 0 x 0 _ rfl rfl
        have a1 := hca 0 x 1 _ rfl rfl
        have a2 := hca 0 x 2 _ rfl rfl
        simp only [Nat.zero_mul, Nat.add_zero] at a0 a1 a2
        simp only [List.length_cons, List.length_nil] at h1 h2 h5 h6
        clear hca
        have hba2 : ba < wr.heap.size := by omega
        have q2 : (((xs.length : Int) + 1) == 0) = false := by simp; omega
        have hsl := fun W => run_tail (some ⟨ba, oa, none⟩) xs.length c W
        go_wp2_with fail
        go_region
        go_wp2_with fail
        go_region
        first | (rename_i hK; refine hK _ _ ?_) | (rename_i hK _; refine hK _ _ ?_) | (rename_i hK _ _; refine hK _ _ ?_) | (rename_i hK _ _ _; refine hK _ _ ?_) | (rename_i hK _ _ _ _; refine hK _ _ ?_) | (rename_i hK _ _ _ _ _; refine hK _ _ ?_) | (rename_i hK _ _ _ _ _ _; refine hK _ _ ?_) | (rename_i hK _ _ _ _ _ _ _; refine hK _ _ ?_) | (rename_i hK _ _ _ _ _ _ _ _; refine hK _ _ ?_) | (rename_i hK _ _ _ _ _ _ _ _ _; refine hK _ _ ?_) | (rename_i hK _ _ _ _ _ _ _ _ _ _; refine hK _ _ ?_) | (rename_i hK _ _ _ _ _ _ _ _ _ _ _; refine hK _ _ ?_) | (rename_i hK _ _ _ _ _ _ _ _ _ _ _ _; refine hK _ _ ?_) | (rename_i hK _ _ _ _ _ _ _ _ _ _ _ _ _; refine hK _ _ ?_) | (rename_i hK _ _ _ _ _ _ _ _ _ _ _ _ _ _; refine hK _ _ ?_) | (rename_i hK _ _ _ _ _ _ _ _ _ _ _ _ _ _ _; refine hK _ _ ?_) | (rename_i hK _ _ _ _ _ _ _ _ _ _ _ _ _ _ _ _; refine hK _ _ ?_) | (rename_i hK _ _ _ _ _ _ _ _ _ _ _ _ _ _ _ _ _; refine hK _ _ ?_) | (rename_i hK _ _ _ _ _ _ _ _ _ _ _ _ _ _ _ _ _ _; refine hK _ _ ?_) | (rename_i hK _ _ _ _ _ _ _ _ _ _ _ _ _ _ _ _ _ _ _; refine hK _ _ ?_) | (rename_i hK _ _ _ _ _ _ _ _ _ _ _ _ _ _ _ _ _ _ _ _; refine hK _ _ ?_) | (rename_i hK _ _ _ _ _ _ _ _ _ _ _ _ _ _ _ _ _ _ _ _ _; refine hK _ _ ?_) | (rename_i hK _ _ _ _ _ _ _ _ _ _ _ _ _ _ _ _ _ _ _ _ _ _; refine hK _ _ ?_) | (rename_i hK _ _ _ _ _ _ _ _ _ _ _ _ _ _ _ _ _ _ _ _ _ _ _; refine hK _ _ ?_)
        refine (wpIn_wide (n := n)).1 ?_
        refine abs_world ?_
        intro Wb hWb
        have hJd : ∀ pre W, J pre W → J pre W.drew := fun pre W h => HJ.out.1 pre _ _ h (Below.refl _ _).drew
        have e3 := HJ.out.2 pre _ ⟨Ba, 0, none⟩ (.slice (tailA (some ⟨ba, oa, none⟩) c) xs.length (c - 1)) HJ1.out (.inl rfl)
        have e4 := HJ.out.1 pre _ _ e3 ((Below.refl _ _).alloc (Nat.le_refl _) (.cells #[.int .i64 x.time, .int .i64 x.campus, .int .i64 x.no] 23))
        have hjb : J pre Wb := by rw [hWb]; with_reducible (first | exact e4 | exact hJd _ _ e4 | exact hJd _ _ (hJd _ _ e4) | exact hJd _ _ (hJd _ _ (hJd _ _ e4)) | exact hJd _ _ (hJd _ _ (hJd _ _ (hJd _ _ e4))))
        have hlow : ∀ b, b < n₀ → Wb.heap[b]? = w.heap[b]? := fun b hb => by rw [hWb]; simp only [drew_heap]; exact ((Below.heap_alloc _ _ _ (by simp; omega)).trans (Below.heap_setCell _ _ _ b (by simp; omega))).trans (HS.out b hb)
        have e1 : wr.heap.size + 1 = Wb.heap.size := by rw [hWb]; simp
        have n1 : ¬ wr.heap.size = Ba := by omega
        have n2 : ¬ wr.heap.size = Bb := by omega
        have n3 : ¬ Ba = wr.heap.size := by omega
        have n4 : ¬ Bb = wr.heap.size := by omega
        have n5 : ¬ Bb = Ba := fun e => hne e.symm
        have y1 : Wb.cell? ⟨Ba, 0, none⟩ = some (.slice (tailA (some ⟨ba, oa, none⟩) c) xs.length (c - 1)) := by rw [hWb]; simp [go_sem, h1, h2, h3, h4, h12, h13, n1, n2, n3, n4, n5, hne]
        have y2 : Wb.cell? ⟨Bb, 0, none⟩ = some (.slice D ([] : List St).length d) := by rw [hWb]; simp [go_sem, h1, h2, h3, h4, h12, h13, n1, n2, n3, n4, n5, hne]
        have y3 : Wb.frozen? ⟨Ba, 0, none⟩ = false := by rw [hWb]; simp [go_sem, h1, h2, h3, h4, h12, h13, n1, n2, n3, n4, n5, hne]
        have y4 : Wb.frozen? ⟨Bb, 0, none⟩ = false := by rw [hWb]; simp [go_sem, h1, h2, h3, h4, h12, h13, n1, n2, n3, n4, n5, hne]
        have y5 : Wb.cell? ⟨wr.heap.size, 0, none⟩ = some (.int .i64 x.time) := by rw [hWb]; simp [go_sem, h1, h2, h3, h4, h12, h13, n1, n2, n3, n4, n5, hne]
        have y6 : Wb.cell? ⟨wr.heap.size, 1, none⟩ = some (.int .i64 x.campus) := by rw [hWb]; simp [go_sem, h1, h2, h3, h4, h12, h13, n1, n2, n3, n4, n5, hne]
        have y7 : Wb.cell? ⟨wr.heap.size, 2, none⟩ = some (.int .i64 x.no) := by rw [hWb]; simp [go_sem, h1, h2, h3, h4, h12, h13, n1, n2, n3, n4, n5, hne]
        have zz1 : Ba < Wb.heap.size := by omega
        have zz2 : Bb < Wb.heap.size := by omega
        have hmm := HM.out
        rw [mergeL_left] at hmm
        have HMM := Lib.hid hmm
        have HLOW := Lib.hid hlow
        obtain ⟨fn, tmps, assign, body, hy, hR⟩ := HY.out pre x Wb hjb ⟨mergeL xs ([] : List St), by have h := HMM.out; simpa using h⟩
        simp only [St.v] at hy
        clear e1 hWb hlow hmm hJd
        gi_wp2
        refine ⟨fun h => (by cases h), hR.mono ?_⟩
        rintro e W3 (⟨rfl, hJ3, hk3⟩ | ⟨rfl, hJx3⟩)
        · have hat := both_after (xs := xs) (ys := ([] : List St)) (s := x) hfree hn h11w h12w zz1 zz2 hk3 hJ3 HMM.out y1 y2 y3 y4 (by first | omega | (simp only [List.length_cons, List.length_nil]; omega)) (by first | omega | (simp only [List.length_cons, List.length_nil]; omega)) (by omega) (by omega) (reads_tail HXw.out (by omega)) HYw.out HLOW.out
          gi_wp2
          go_roundw
          case rel => exact hat.1
          case measure => rw [hat.2, h1, h2]; simp only [lenV, List.length_cons, List.length_nil]; omega
        · gi_wp2
          refine bodyPost_ret (results_none rfl _ _ _) rfl ?_
          exact ⟨⟨_, rfl⟩, .inr ⟨_, trivial, hJx3⟩⟩
      · obtain ⟨ba, oa, rfl, hba, hca⟩ := HXr.out (by simp)
        obtain ⟨bb, ob, rfl, hbb, hcb⟩ := HYr.out (by simp)
        have a0 := hca 0 x 0 _ rfl rfl
        have a1 := hca 0 x 1 _ rfl rfl
        have a2 := hca 0 x 2 _ rfl rfl
        have b0 := hcb 0 y 0 _ rfl rfl
        have b1 := hcb 0 y 1 _ rfl rfl
        have b2 := hcb 0 y 2 _ rfl rfl
        simp only [Nat.zero_mul, Nat.add_zero] at a0 a1 a2 b0 b1 b2
        simp only [List.length_cons] at h1 h2 h5 h6
        clear hca hcb
        have hz : wr.heap.size < wr.heap.size + 1 := by omega
        have hba2 : ba < wr.heap.size := by omega
        have hbb2 : bb < wr.heap.size := by omega
        have q1 : (((ys.length : Int) + 1) == 0) = false := by simp; omega
        have q2 : (((xs.length : Int) + 1) == 0) = false := by simp; omega
        have hlt : cmpS x y < 0 ∨ 0 < cmpS x y ∨ cmpS x y = 0 := by omega
        rcases hlt with hlt | hlt | hlt
        · go_wp2_with fail
          refine wp_region_below (by kernel_rfl) (by kernel_rfl) ?_
          repeat (first
            | go_big_quiet_skip
            | (go_big_quiet_want
               first
                 | (apply quiet_val
                    focus (
                      intro WC hWC
                      obtain ⟨hcc0, hff0⟩ := bcell hWC
                      go_simp
                      all_goals rfl
                      done)
                    go_simp
                    go_big_quiet_on)
                 | (apply quiet_call
                    focus (
                      intro WC hWC
                      go_simp
                      all_goals (first | rfl | exact ⟨rfl, rfl⟩)
                      done)
                    focus (
                      intro WC hWC
                      exact (SCompare_any x y WC).mono fun e w' h => ⟨h.1, hWC.trans (h.2.mono hWC.size)⟩
                      done)
                    go_simp
                    go_big_quiet_on)))
          refine wpQuiet_nil ?_
          intro w5 hw5
          obtain ⟨hcc, hff⟩ := bcell hw5
          have g1 : w5.cell? ⟨Ba, 0, none⟩ = some (.slice (some ⟨ba, oa, none⟩) (xs.length + 1) c) := by rw [hcc _ _ (by simp; omega)]; simp [go_sem, h1, h12]
          have g2 : w5.cell? ⟨Bb, 0, none⟩ = some (.slice (some ⟨bb, ob, none⟩) (ys.length + 1) d) := by rw [hcc _ _ (by simp; omega)]; simp [go_sem, h2, h13]
          have g3 : w5.frozen? ⟨Ba, 0, none⟩ = false := by rw [hff _ _ (by simp; omega)]; simp [go_sem, h3, h12]
          have g4 : w5.frozen? ⟨Bb, 0, none⟩ = false := by rw [hff _ _ (by simp; omega)]; simp [go_sem, h4, h13]
          have p0 : w5.cell? ⟨ba, oa , none⟩ = some (.int .i64 x.time) := by rw [hcc _ _ (by simp; omega)]; simp [go_sem, a0, hba2]
          have r0 : w5.cell? ⟨bb, ob , none⟩ = some (.int .i64 y.time) := by rw [hcc _ _ (by simp; omega)]; simp [go_sem, b0, hbb2]
          have p1 : w5.cell? ⟨ba, oa + 1, none⟩ = some (.int .i64 x.campus) := by rw [hcc _ _ (by simp; omega)]; simp [go_sem, a1, hba2]
          have r1 : w5.cell? ⟨bb, ob + 1, none⟩ = some (.int .i64 y.campus) := by rw [hcc _ _ (by simp; omega)]; simp [go_sem, b1, hbb2]
          have p2 : w5.cell? ⟨ba, oa + 2, none⟩ = some (.int .i64 x.no) := by rw [hcc _ _ (by simp; omega)]; simp [go_sem, a2, hba2]
          have r2 : w5.cell? ⟨bb, ob + 2, none⟩ = some (.int .i64 y.no) := by rw [hcc _ _ (by simp; omega)]; simp [go_sem, b2, hbb2]
          obtain ⟨sb1, sb2, sb3⟩ := below_at wr.heap.size rfl hw5 (by simp)
          have s0 := sb1 0
          have s1 := sb1 1
          have s2 := sb1 2
          have t0 := sb2 0
          have t1 := sb2 1
          have t2 := sb2 2
          simp at s0 s1 s2
          have hb5 : Below wr.heap.size wr w5 := ((Below.refl _ _).alloc (Nat.le_refl _) _).trans (hw5.mono (by simp))
          have zb0 : Ba < w5.heap.size := by omega
          have zb1 : Bb < w5.heap.size := by omega
          have zb2 : ba < w5.heap.size := by omega
          have zb3 : bb < w5.heap.size := by omega
          clear hcc hff sb1 sb2
          have hsl := fun W => run_tail (some ⟨ba, oa, none⟩) xs.length c W
          go_wp2_with fail
          go_region
          first | (rename_i hK; refine hK _ _ ?_) | (rename_i hK _; refine hK _ _ ?_) | (rename_i hK _ _; refine hK _ _ ?_) | (rename_i hK _ _ _; refine hK _ _ ?_) | (rename_i hK _ _ _ _; refine hK _ _ ?_) | (rename_i hK _ _ _ _ _; refine hK _ _ ?_) | (rename_i hK _ _ _ _ _ _; refine hK _ _ ?_) | (rename_i hK _ _ _ _ _ _ _; refine hK _ _ ?_) | (rename_i hK _ _ _ _ _ _ _ _; refine hK _ _ ?_) | (rename_i hK _ _ _ _ _ _ _ _ _; refine hK _ _ ?_) | (rename_i hK _ _ _ _ _ _ _ _ _ _; refine hK _ _ ?_) | (rename_i hK _ _ _ _ _ _ _ _ _ _ _; refine hK _ _ ?_) | (rename_i hK _ _ _ _ _ _ _ _ _ _ _ _; refine hK _ _ ?_) | (rename_i hK _ _ _ _ _ _ _ _ _ _ _ _ _; refine hK _ _ ?_) | (rename_i hK _ _ _ _ _ _ _ _ _ _ _ _ _ _; refine hK _ _ ?_) | (rename_i hK _ _ _ _ _ _ _ _ _ _ _ _ _ _ _; refine hK _ _ ?_) | (rename_i hK _ _ _ _ _ _ _ _ _ _ _ _ _ _ _ _; refine hK _ _ ?_) | (rename_i hK _ _ _ _ _ _ _ _ _ _ _ _ _ _ _ _ _; refine hK _ _ ?_) | (rename_i hK _ _ _ _ _ _ _ _ _ _ _ _ _ _ _ _ _ _; refine hK _ _ ?_) | (rename_i hK _ _ _ _ _ _ _ _ _ _ _ _ _ _ _ _ _ _ _; refine hK _ _ ?_) | (rename_i hK _ _ _ _ _ _ _ _ _ _ _ _ _ _ _ _ _ _ _ _; refine hK _ _ ?_) | (rename_i hK _ _ _ _ _ _ _ _ _ _ _ _ _ _ _ _ _ _ _ _ _; refine hK _ _ ?_) | (rename_i hK _ _ _ _ _ _ _ _ _ _ _ _ _ _ _ _ _ _ _ _ _ _; refine hK _ _ ?_) | (rename_i hK _ _ _ _ _ _ _ _ _ _ _ _ _ _ _ _ _ _ _ _ _ _ _; refine hK _ _ ?_)
          refine (wpIn_wide (n := n)).1 ?_
          refine abs_world ?_
          intro Wb hWb
          have e1 : Below wr.heap.size wr (((w5.setCell ⟨wr.heap.size, 0, none⟩ (.int .i64 x.time)).setCell ⟨wr.heap.size, 1, none⟩ (.int .i64 x.campus)).setCell ⟨wr.heap.size, 2, none⟩ (.int .i64 x.no)) := ((Below.setCell hb5 (Nat.le_refl _) _).setCell (Nat.le_refl _) _).setCell (Nat.le_refl _) _
          have e2 := HJ.out.1 pre _ _ HJ1.out e1
          have e3 := HJ.out.2 pre _ ⟨Ba, 0, none⟩ (.slice (tailA (some ⟨ba, oa, none⟩) c) xs.length (c - 1)) e2 (.inl rfl)
          have hJd : ∀ pre W, J pre W → J pre W.drew := fun pre W h => HJ.out.1 pre _ _ h (Below.refl _ _).drew
          have hjb : J pre Wb := by rw [hWb]; with_reducible (first | exact e3 | exact hJd _ _ e3 | exact hJd _ _ (hJd _ _ e3) | exact hJd _ _ (hJd _ _ (hJd _ _ e3)) | exact hJd _ _ (hJd _ _ (hJd _ _ (hJd _ _ e3))))
          have hlow : ∀ b, b < n₀ → Wb.heap[b]? = w.heap[b]? := fun b hb => by rw [hWb]; simp only [drew_heap]; exact ((Below.heap_setCell _ _ _ b (by simp; omega)).trans (e1.block b (by omega))).trans (HS.out b hb)
          have n1 : ¬ wr.heap.size = Ba := by omega
          have n2 : ¬ wr.heap.size = Bb := by omega
          have n3 : ¬ Ba = wr.heap.size := by omega
          have n4 : ¬ Bb = wr.heap.size := by omega
          have n5 : ¬ Bb = Ba := fun e => hne e.symm
          have y1 : Wb.cell? ⟨Ba, 0, none⟩ = some (.slice (tailA (some ⟨ba, oa, none⟩) c) xs.length (c - 1)) := by rw [hWb]; simp [go_sem, g1, g2, g3, g4, s0, s1, s2, t0, t1, t2, n1, n2, n3, n4, n5, hne]
          have y2 : Wb.cell? ⟨Bb, 0, none⟩ = some (.slice (some ⟨bb, ob, none⟩) (y :: ys).length d) := by rw [hWb]; simp [go_sem, g1, g2, g3, g4, s0, s1, s2, t0, t1, t2, n1, n2, n3, n4, n5, hne]
          have y3 : Wb.frozen? ⟨Ba, 0, none⟩ = false := by rw [hWb]; simp [go_sem, g1, g2, g3, g4, s0, s1, s2, t0, t1, t2, n1, n2, n3, n4, n5, hne]
          have y4 : Wb.frozen? ⟨Bb, 0, none⟩ = false := by rw [hWb]; simp [go_sem, g1, g2, g3, g4, s0, s1, s2, t0, t1, t2, n1, n2, n3, n4, n5, hne]
          have y5 : Wb.cell? ⟨wr.heap.size, 0, none⟩ = some (.int .i64 x.time) := by rw [hWb]; simp [go_sem, g1, g2, g3, g4, s0, s1, s2, t0, t1, t2, n1, n2, n3, n4, n5, hne]
          have y6 : Wb.cell? ⟨wr.heap.size, 1, none⟩ = some (.int .i64 x.campus) := by rw [hWb]; simp [go_sem, g1, g2, g3, g4, s0, s1, s2, t0, t1, t2, n1, n2, n3, n4, n5, hne]
          have y7 : Wb.cell? ⟨wr.heap.size, 2, none⟩ = some (.int .i64 x.no) := by rw [hWb]; simp [go_sem, g1, g2, g3, g4, s0, s1, s2, t0, t1, t2, n1, n2, n3, n4, n5, hne]
          have zz1 : Ba < Wb.heap.size := by have := e1.size; rw [hWb]; simp at this ⊢; omega
          have zz2 : Bb < Wb.heap.size := by have := e1.size; rw [hWb]; simp at this ⊢; omega
          have hmm := HM.out
          rw [mergeL_lt hlt] at hmm
          have HMM := Lib.hid hmm
          have HLOW := Lib.hid hlow
          obtain ⟨fn, tmps, assign, body, hy, hR⟩ := HY.out pre x Wb hjb ⟨mergeL xs (y :: ys), by have h := HMM.out; simpa using h⟩
          simp only [St.v] at hy
          clear e1 hWb hlow hmm hJd
          gi_wp2
          refine ⟨fun h => (by cases h), hR.mono ?_⟩
          rintro e W3 (⟨rfl, hJ3, hk3⟩ | ⟨rfl, hJx3⟩)
          · have hat := both_after (xs := xs) (ys := (y :: ys)) (s := x) hfree hn h11w h12w zz1 zz2 hk3 hJ3 HMM.out y1 y2 y3 y4 (by first | omega | (simp only [List.length_cons, List.length_nil]; omega)) (by first | omega | (simp only [List.length_cons, List.length_nil]; omega)) (by omega) (by omega) (reads_tail HXw.out (by omega)) HYw.out HLOW.out
            gi_wp2
            go_roundw
            case rel => exact hat.1
            case measure => rw [hat.2, h1, h2]; simp only [lenV, List.length_cons, List.length_nil]; omega
          · gi_wp2
            refine bodyPost_ret (results_none rfl _ _ _) rfl ?_
            exact ⟨⟨_, rfl⟩, .inr ⟨_, trivial, hJx3⟩⟩
        · go_wp2_with fail
          refine wp_region_below (by kernel_rfl) (by kernel_rfl) ?_
          repeat (first
            | go_big_quiet_skip
            | (go_big_quiet_want
               first
                 | (apply quiet_val
                    focus (
                      intro WC hWC
                      obtain ⟨hcc0, hff0⟩ := bcell hWC
                      go_simp
                      all_goals rfl
                      done)
                    go_simp
                    go_big_quiet_on)
                 | (apply quiet_call
                    focus (
                      intro WC hWC
                      go_simp
                      all_goals (first | rfl | exact ⟨rfl, rfl⟩)
                      done)
                    focus (
                      intro WC hWC
                      exact (SCompare_any x y WC).mono fun e w' h => ⟨h.1, hWC.trans (h.2.mono hWC.size)⟩
                      done)
                    go_simp
                    go_big_quiet_on)))
          refine wpQuiet_nil ?_
          intro w5 hw5
          obtain ⟨hcc, hff⟩ := bcell hw5
          have g1 : w5.cell? ⟨Ba, 0, none⟩ = some (.slice (some ⟨ba, oa, none⟩) (xs.length + 1) c) := by rw [hcc _ _ (by simp; omega)]; simp [go_sem, h1, h12]
          have g2 : w5.cell? ⟨Bb, 0, none⟩ = some (.slice (some ⟨bb, ob, none⟩) (ys.length + 1) d) := by rw [hcc _ _ (by simp; omega)]; simp [go_sem, h2, h13]
          have g3 : w5.frozen? ⟨Ba, 0, none⟩ = false := by rw [hff _ _ (by simp; omega)]; simp [go_sem, h3, h12]
          have g4 : w5.frozen? ⟨Bb, 0, none⟩ = false := by rw [hff _ _ (by simp; omega)]; simp [go_sem, h4, h13]
          have p0 : w5.cell? ⟨ba, oa , none⟩ = some (.int .i64 x.time) := by rw [hcc _ _ (by simp; omega)]; simp [go_sem, a0, hba2]
          have r0 : w5.cell? ⟨bb, ob , none⟩ = some (.int .i64 y.time) := by rw [hcc _ _ (by simp; omega)]; simp [go_sem, b0, hbb2]
          have p1 : w5.cell? ⟨ba, oa + 1, none⟩ = some (.int .i64 x.campus) := by rw [hcc _ _ (by simp; omega)]; simp [go_sem, a1, hba2]
          have r1 : w5.cell? ⟨bb, ob + 1, none⟩ = some (.int .i64 y.campus) := by rw [hcc _ _ (by simp; omega)]; simp [go_sem, b1, hbb2]
          have p2 : w5.cell? ⟨ba, oa + 2, none⟩ = some (.int .i64 x.no) := by rw [hcc _ _ (by simp; omega)]; simp [go_sem, a2, hba2]
          have r2 : w5.cell? ⟨bb, ob + 2, none⟩ = some (.int .i64 y.no) := by rw [hcc _ _ (by simp; omega)]; simp [go_sem, b2, hbb2]
          obtain ⟨sb1, sb2, sb3⟩ := below_at wr.heap.size rfl hw5 (by simp)
          have s0 := sb1 0
          have s1 := sb1 1
          have s2 := sb1 2
          have t0 := sb2 0
          have t1 := sb2 1
          have t2 := sb2 2
          simp at s0 s1 s2
          have hb5 : Below wr.heap.size wr w5 := ((Below.refl _ _).alloc (Nat.le_refl _) _).trans (hw5.mono (by simp))
          have zb0 : Ba < w5.heap.size := by omega
          have zb1 : Bb < w5.heap.size := by omega
          have zb2 : ba < w5.heap.size := by omega
          have zb3 : bb < w5.heap.size := by omega
          clear hcc hff sb1 sb2
          go_wp2_with fail
          refine wp_region_below (by kernel_rfl) (by kernel_rfl) ?_
          repeat (first
            | go_big_quiet_skip
            | (go_big_quiet_want
               first
                 | (apply quiet_val
                    focus (
                      intro WC hWC
                      obtain ⟨hcc0, hff0⟩ := bcell hWC
                      go_simp
                      all_goals rfl
                      done)
                    go_simp
                    go_big_quiet_on)
                 | (apply quiet_call
                    focus (
                      intro WC hWC
                      go_simp
                      all_goals (first | rfl | exact ⟨rfl, rfl⟩)
                      done)
                    focus (
                      intro WC hWC
                      exact (SCompare_any x y WC).mono fun e w' h => ⟨h.1, hWC.trans (h.2.mono hWC.size)⟩
                      done)
                    go_simp
                    go_big_quiet_on)))
          refine wpQuiet_nil ?_
          intro w6 hw6
          have hw56 := hw5.trans (hw6.mono hw5.size)
          clear g1 g2 g3 g4 p0 p1 p2 r0 r1 r2 s0 s1 s2 t0 t1 t2 hb5
          obtain ⟨hcc, hff⟩ := bcell hw56
          have g1 : w6.cell? ⟨Ba, 0, none⟩ = some (.slice (some ⟨ba, oa, none⟩) (xs.length + 1) c) := by rw [hcc _ _ (by simp; omega)]; simp [go_sem, h1, h12]
          have g2 : w6.cell? ⟨Bb, 0, none⟩ = some (.slice (some ⟨bb, ob, none⟩) (ys.length + 1) d) := by rw [hcc _ _ (by simp; omega)]; simp [go_sem, h2, h13]
          have g3 : w6.frozen? ⟨Ba, 0, none⟩ = false := by rw [hff _ _ (by simp; omega)]; simp [go_sem, h3, h12]
          have g4 : w6.frozen? ⟨Bb, 0, none⟩ = false := by rw [hff _ _ (by simp; omega)]; simp [go_sem, h4, h13]
          have p0 : w6.cell? ⟨ba, oa , none⟩ = some (.int .i64 x.time) := by rw [hcc _ _ (by simp; omega)]; simp [go_sem, a0, hba2]
          have r0 : w6.cell? ⟨bb, ob , none⟩ = some (.int .i64 y.time) := by rw [hcc _ _ (by simp; omega)]; simp [go_sem, b0, hbb2]
          have p1 : w6.cell? ⟨ba, oa + 1, none⟩ = some (.int .i64 x.campus) := by rw [hcc _ _ (by simp; omega)]; simp [go_sem, a1, hba2]
          have r1 : w6.cell? ⟨bb, ob + 1, none⟩ = some (.int .i64 y.campus) := by rw [hcc _ _ (by simp; omega)]; simp [go_sem, b1, hbb2]
          have p2 : w6.cell? ⟨ba, oa + 2, none⟩ = some (.int .i64 x.no) := by rw [hcc _ _ (by simp; omega)]; simp [go_sem, a2, hba2]
          have r2 : w6.cell? ⟨bb, ob + 2, none⟩ = some (.int .i64 y.no) := by rw [hcc _ _ (by simp; omega)]; simp [go_sem, b2, hbb2]
          obtain ⟨sb1, sb2, sb3⟩ := below_at wr.heap.size rfl hw56 (by simp)
          have s0 := sb1 0
          have s1 := sb1 1
          have s2 := sb1 2
          have t0 := sb2 0
          have t1 := sb2 1
          have t2 := sb2 2
          simp at s0 s1 s2
          have hb6 : Below wr.heap.size wr w6 := ((Below.refl _ _).alloc (Nat.le_refl _) _).trans (hw56.mono (by simp))
          have zb0 : Ba < w6.heap.size := by omega
          have zb1 : Bb < w6.heap.size := by omega
          have zb2 : ba < w6.heap.size := by omega
          have zb3 : bb < w6.heap.size := by omega
          clear hcc hff sb1 sb2
          have hsl := fun W => run_tail (some ⟨bb, ob, none⟩) ys.length d W
          go_wp2_with fail
          go_region
          first | (rename_i hK; refine hK _ _ ?_) | (rename_i hK _; refine hK _ _ ?_) | (rename_i hK _ _; refine hK _ _ ?_) | (rename_i hK _ _ _; refine hK _ _ ?_) | (rename_i hK _ _ _ _; refine hK _ _ ?_) | (rename_i hK _ _ _ _ _; refine hK _ _ ?_) | (rename_i hK _ _ _ _ _ _; refine hK _ _ ?_) | (rename_i hK _ _ _ _ _ _ _; refine hK _ _ ?_) | (rename_i hK _ _ _ _ _ _ _ _; refine hK _ _ ?_) | (rename_i hK _ _ _ _ _ _ _ _ _; refine hK _ _ ?_) | (rename_i hK _ _ _ _ _ _ _ _ _ _; refine hK _ _ ?_) | (rename_i hK _ _ _ _ _ _ _ _ _ _ _; refine hK _ _ ?_) | (rename_i hK _ _ _ _ _ _ _ _ _ _ _ _; refine hK _ _ ?_) | (rename_i hK _ _ _ _ _ _ _ _ _ _ _ _ _; refine hK _ _ ?_) | (rename_i hK _ _ _ _ _ _ _ _ _ _ _ _ _ _; refine hK _ _ ?_) | (rename_i hK _ _ _ _ _ _ _ _ _ _ _ _ _ _ _; refine hK _ _ ?_) | (rename_i hK _ _ _ _ _ _ _ _ _ _ _ _ _ _ _ _; refine hK _ _ ?_) | (rename_i hK _ _ _ _ _ _ _ _ _ _ _ _ _ _ _ _ _; refine hK _ _ ?_) | (rename_i hK _ _ _ _ _ _ _ _ _ _ _ _ _ _ _ _ _ _; refine hK _ _ ?_) | (rename_i hK _ _ _ _ _ _ _ _ _ _ _ _ _ _ _ _ _ _ _; refine hK _ _ ?_) | (rename_i hK _ _ _ _ _ _ _ _ _ _ _ _ _ _ _ _ _ _ _ _; refine hK _ _ ?_) | (rename_i hK _ _ _ _ _ _ _ _ _ _ _ _ _ _ _ _ _ _ _ _ _; refine hK _ _ ?_) | (rename_i hK _ _ _ _ _ _ _ _ _ _ _ _ _ _ _ _ _ _ _ _ _ _; refine hK _ _ ?_) | (rename_i hK _ _ _ _ _ _ _ _ _ _ _ _ _ _ _ _ _ _ _ _ _ _ _; refine hK _ _ ?_)
          refine (wpIn_wide (n := n)).1 ?_
          refine abs_world ?_
          intro Wb hWb
          have e1 : Below wr.heap.size wr (((w6.setCell ⟨wr.heap.size, 0, none⟩ (.int .i64 y.time)).setCell ⟨wr.heap.size, 1, none⟩ (.int .i64 y.campus)).setCell ⟨wr.heap.size, 2, none⟩ (.int .i64 y.no)) := ((Below.setCell hb6 (Nat.le_refl _) _).setCell (Nat.le_refl _) _).setCell (Nat.le_refl _) _
          have e2 := HJ.out.1 pre _ _ HJ1.out e1
          have e4 := HJ.out.2 pre _ ⟨Bb, 0, none⟩ (.slice (tailA (some ⟨bb, ob, none⟩) d) ys.length (d - 1)) e2 (.inr rfl)
          have hJd : ∀ pre W, J pre W → J pre W.drew := fun pre W h => HJ.out.1 pre _ _ h (Below.refl _ _).drew
          have hjb : J pre Wb := by rw [hWb]; with_reducible (first | exact e4 | exact hJd _ _ e4 | exact hJd _ _ (hJd _ _ e4) | exact hJd _ _ (hJd _ _ (hJd _ _ e4)) | exact hJd _ _ (hJd _ _ (hJd _ _ (hJd _ _ e4))))
          have hlow : ∀ b, b < n₀ → Wb.heap[b]? = w.heap[b]? := fun b hb => by rw [hWb]; simp only [drew_heap]; exact ((Below.heap_setCell _ _ _ b (by simp; omega)).trans (e1.block b (by omega))).trans (HS.out b hb)
          have n1 : ¬ wr.heap.size = Ba := by omega
          have n2 : ¬ wr.heap.size = Bb := by omega
          have n3 : ¬ Ba = wr.heap.size := by omega
          have n4 : ¬ Bb = wr.heap.size := by omega
          have n5 : ¬ Bb = Ba := fun e => hne e.symm
          have y1 : Wb.cell? ⟨Ba, 0, none⟩ = some (.slice (some ⟨ba, oa, none⟩) (x :: xs).length c) := by rw [hWb]; simp [go_sem, g1, g2, g3, g4, s0, s1, s2, t0, t1, t2, n1, n2, n3, n4, n5, hne]
          have y2 : Wb.cell? ⟨Bb, 0, none⟩ = some (.slice (tailA (some ⟨bb, ob, none⟩) d) ys.length (d - 1)) := by rw [hWb]; simp [go_sem, g1, g2, g3, g4, s0, s1, s2, t0, t1, t2, n1, n2, n3, n4, n5, hne]
          have y3 : Wb.frozen? ⟨Ba, 0, none⟩ = false := by rw [hWb]; simp [go_sem, g1, g2, g3, g4, s0, s1, s2, t0, t1, t2, n1, n2, n3, n4, n5, hne]
          have y4 : Wb.frozen? ⟨Bb, 0, none⟩ = false := by rw [hWb]; simp [go_sem, g1, g2, g3, g4, s0, s1, s2, t0, t1, t2, n1, n2, n3, n4, n5, hne]
          have y5 : Wb.cell? ⟨wr.heap.size, 0, none⟩ = some (.int .i64 y.time) := by rw [hWb]; simp [go_sem, g1, g2, g3, g4, s0, s1, s2, t0, t1, t2, n1, n2, n3, n4, n5, hne]
          have y6 : Wb.cell? ⟨wr.heap.size, 1, none⟩ = some (.int .i64 y.campus) := by rw [hWb]; simp [go_sem, g1, g2, g3, g4, s0, s1, s2, t0, t1, t2, n1, n2, n3, n4, n5, hne]
          have y7 : Wb.cell? ⟨wr.heap.size, 2, none⟩ = some (.int .i64 y.no) := by rw [hWb]; simp [go_sem, g1, g2, g3, g4, s0, s1, s2, t0, t1, t2, n1, n2, n3, n4, n5, hne]
          have zz1 : Ba < Wb.heap.size := by have := e1.size; rw [hWb]; simp at this ⊢; omega
          have zz2 : Bb < Wb.heap.size := by have := e1.size; rw [hWb]; simp at this ⊢; omega
          have hmm := HM.out
          rw [mergeL_gt hlt] at hmm
          have HMM := Lib.hid hmm
          have HLOW := Lib.hid hlow
          obtain ⟨fn, tmps, assign, body, hy, hR⟩ := HY.out pre y Wb hjb ⟨mergeL (x :: xs) ys, by have h := HMM.out; simpa using h⟩
          simp only [St.v] at hy
          clear e1 hWb hlow hmm hJd
          gi_wp2
          refine ⟨fun h => (by cases h), hR.mono ?_⟩
          rintro e W3 (⟨rfl, hJ3, hk3⟩ | ⟨rfl, hJx3⟩)
          · have hat := both_after (xs := (x :: xs)) (ys := ys) (s := y) hfree hn h11w h12w zz1 zz2 hk3 hJ3 HMM.out y1 y2 y3 y4 (by first | omega | (simp only [List.length_cons, List.length_nil]; omega)) (by first | omega | (simp only [List.length_cons, List.length_nil]; omega)) (by omega) (by omega) HXw.out (reads_tail HYw.out (by omega)) HLOW.out
            gi_wp2
            go_roundw
            case rel => exact hat.1
            case measure => rw [hat.2, h1, h2]; simp only [lenV, List.length_cons, List.length_nil]; omega
          · gi_wp2
            refine bodyPost_ret (results_none rfl _ _ _) rfl ?_
            exact ⟨⟨_, rfl⟩, .inr ⟨_, trivial, hJx3⟩⟩
        · have hlt2 : ¬ cmpS x y < 0 := by omega
          have hlt3 : ¬ 0 < cmpS x y := by omega
          go_wp2_with fail
          refine wp_region_below (by kernel_rfl) (by kernel_rfl) ?_
          repeat (first
            | go_big_quiet_skip
            | (go_big_quiet_want
               first
                 | (apply quiet_val
                    focus (
                      intro WC hWC
                      obtain ⟨hcc0, hff0⟩ := bcell hWC
                      go_simp
                      all_goals rfl
                      done)
                    go_simp
                    go_big_quiet_on)
                 | (apply quiet_call
                    focus (
                      intro WC hWC
                      go_simp
                      all_goals (first | rfl | exact ⟨rfl, rfl⟩)
                      done)
                    focus (
                      intro WC hWC
                      exact (SCompare_any x y WC).mono fun e w' h => ⟨h.1, hWC.trans (h.2.mono hWC.size)⟩
                      done)
                    go_simp
                    go_big_quiet_on)))
          refine wpQuiet_nil ?_
          intro w5 hw5
          obtain ⟨hcc, hff⟩ := bcell hw5
          have g1 : w5.cell? ⟨Ba, 0, none⟩ = some (.slice (some ⟨ba, oa, none⟩) (xs.length + 1) c) := by rw [hcc _ _ (by simp; omega)]; simp [go_sem, h1, h12]
          have g2 : w5.cell? ⟨Bb, 0, none⟩ = some (.slice (some ⟨bb, ob, none⟩) (ys.length + 1) d) := by rw [hcc _ _ (by simp; omega)]; simp [go_sem, h2, h13]
          have g3 : w5.frozen? ⟨Ba, 0, none⟩ = false := by rw [hff _ _ (by simp; omega)]; simp [go_sem, h3, h12]
          have g4 : w5.frozen? ⟨Bb, 0, none⟩ = false := by rw [hff _ _ (by simp; omega)]; simp [go_sem, h4, h13]
          have p0 : w5.cell? ⟨ba, oa , none⟩ = some (.int .i64 x.time) := by rw [hcc _ _ (by simp; omega)]; simp [go_sem, a0, hba2]
          have r0 : w5.cell? ⟨bb, ob , none⟩ = some (.int .i64 y.time) := by rw [hcc _ _ (by simp; omega)]; simp [go_sem, b0, hbb2]
          have p1 : w5.cell? ⟨ba, oa + 1, none⟩ = some (.int .i64 x.campus) := by rw [hcc _ _ (by simp; omega)]; simp [go_sem, a1, hba2]
          have r1 : w5.cell? ⟨bb, ob + 1, none⟩ = some (.int .i64 y.campus) := by rw [hcc _ _ (by simp; omega)]; simp [go_sem, b1, hbb2]
          have p2 : w5.cell? ⟨ba, oa + 2, none⟩ = some (.int .i64 x.no) := by rw [hcc _ _ (by simp; omega)]; simp [go_sem, a2, hba2]
          have r2 : w5.cell? ⟨bb, ob + 2, none⟩ = some (.int .i64 y.no) := by rw [hcc _ _ (by simp; omega)]; simp [go_sem, b2, hbb2]
          obtain ⟨sb1, sb2, sb3⟩ := below_at wr.heap.size rfl hw5 (by simp)
          have s0 := sb1 0
          have s1 := sb1 1
          have s2 := sb1 2
          have t0 := sb2 0
          have t1 := sb2 1
          have t2 := sb2 2
          simp at s0 s1 s2
          have hb5 : Below wr.heap.size wr w5 := ((Below.refl _ _).alloc (Nat.le_refl _) _).trans (hw5.mono (by simp))
          have zb0 : Ba < w5.heap.size := by omega
          have zb1 : Bb < w5.heap.size := by omega
          have zb2 : ba < w5.heap.size := by omega
          have zb3 : bb < w5.heap.size := by omega
          clear hcc hff sb1 sb2
          go_wp2_with fail
          refine wp_region_below (by kernel_rfl) (by kernel_rfl) ?_
          repeat (first
            | go_big_quiet_skip
            | (go_big_quiet_want
               first
                 | (apply quiet_val
                    focus (
                      intro WC hWC
                      obtain ⟨hcc0, hff0⟩ := bcell hWC
                      go_simp
                      all_goals rfl
                      done)
                    go_simp
                    go_big_quiet_on)
                 | (apply quiet_call
                    focus (
                      intro WC hWC
                      go_simp
                      all_goals (first | rfl | exact ⟨rfl, rfl⟩)
                      done)
                    focus (
                      intro WC hWC
                      exact (SCompare_any x y WC).mono fun e w' h => ⟨h.1, hWC.trans (h.2.mono hWC.size)⟩
                      done)
                    go_simp
                    go_big_quiet_on)))
          refine wpQuiet_nil ?_
          intro w6 hw6
          have hw56 := hw5.trans (hw6.mono hw5.size)
          clear g1 g2 g3 g4 p0 p1 p2 r0 r1 r2 s0 s1 s2 t0 t1 t2 hb5
          obtain ⟨hcc, hff⟩ := bcell hw56
          have g1 : w6.cell? ⟨Ba, 0, none⟩ = some (.slice (some ⟨ba, oa, none⟩) (xs.length + 1) c) := by rw [hcc _ _ (by simp; omega)]; simp [go_sem, h1, h12]
          have g2 : w6.cell? ⟨Bb, 0, none⟩ = some (.slice (some ⟨bb, ob, none⟩) (ys.length + 1) d) := by rw [hcc _ _ (by simp; omega)]; simp [go_sem, h2, h13]
          have g3 : w6.frozen? ⟨Ba, 0, none⟩ = false := by rw [hff _ _ (by simp; omega)]; simp [go_sem, h3, h12]
          have g4 : w6.frozen? ⟨Bb, 0, none⟩ = false := by rw [hff _ _ (by simp; omega)]; simp [go_sem, h4, h13]
          have p0 : w6.cell? ⟨ba, oa , none⟩ = some (.int .i64 x.time) := by rw [hcc _ _ (by simp; omega)]; simp [go_sem, a0, hba2]
          have r0 : w6.cell? ⟨bb, ob , none⟩ = some (.int .i64 y.time) := by rw [hcc _ _ (by simp; omega)]; simp [go_sem, b0, hbb2]
          have p1 : w6.cell? ⟨ba, oa + 1, none⟩ = some (.int .i64 x.campus) := by rw [hcc _ _ (by simp; omega)]; simp [go_sem, a1, hba2]
          have r1 : w6.cell? ⟨bb, ob + 1, none⟩ = some (.int .i64 y.campus) := by rw [hcc _ _ (by simp; omega)]; simp [go_sem, b1, hbb2]
          have p2 : w6.cell? ⟨ba, oa + 2, none⟩ = some (.int .i64 x.no) := by rw [hcc _ _ (by simp; omega)]; simp [go_sem, a2, hba2]
          have r2 : w6.cell? ⟨bb, ob + 2, none⟩ = some (.int .i64 y.no) := by rw [hcc _ _ (by simp; omega)]; simp [go_sem, b2, hbb2]
          obtain ⟨sb1, sb2, sb3⟩ := below_at wr.heap.size rfl hw56 (by simp)
          have s0 := sb1 0
          have s1 := sb1 1
          have s2 := sb1 2
          have t0 := sb2 0
          have t1 := sb2 1
          have t2 := sb2 2
          simp at s0 s1 s2
          have hb6 : Below wr.heap.size wr w6 := ((Below.refl _ _).alloc (Nat.le_refl _) _).trans (hw56.mono (by simp))
          have zb0 : Ba < w6.heap.size := by omega
          have zb1 : Bb < w6.heap.size := by omega
          have zb2 : ba < w6.heap.size := by omega
          have zb3 : bb < w6.heap.size := by omega
          clear hcc hff sb1 sb2
          have hsl := fun W => run_tail (some ⟨ba, oa, none⟩) xs.length c W
          have hsl2 := fun W => run_tail (some ⟨bb, ob, none⟩) ys.length d W
          go_wp2_with fail
          go_region
          first | (rename_i hK; refine hK _ _ ?_) | (rename_i hK _; refine hK _ _ ?_) | (rename_i hK _ _; refine hK _ _ ?_) | (rename_i hK _ _ _; refine hK _ _ ?_) | (rename_i hK _ _ _ _; refine hK _ _ ?_) | (rename_i hK _ _ _ _ _; refine hK _ _ ?_) | (rename_i hK _ _ _ _ _ _; refine hK _ _ ?_) | (rename_i hK _ _ _ _ _ _ _; refine hK _ _ ?_) | (rename_i hK _ _ _ _ _ _ _ _; refine hK _ _ ?_) | (rename_i hK _ _ _ _ _ _ _ _ _; refine hK _ _ ?_) | (rename_i hK _ _ _ _ _ _ _ _ _ _; refine hK _ _ ?_) | (rename_i hK _ _ _ _ _ _ _ _ _ _ _; refine hK _ _ ?_) | (rename_i hK _ _ _ _ _ _ _ _ _ _ _ _; refine hK _ _ ?_) | (rename_i hK _ _ _ _ _ _ _ _ _ _ _ _ _; refine hK _ _ ?_) | (rename_i hK _ _ _ _ _ _ _ _ _ _ _ _ _ _; refine hK _ _ ?_) | (rename_i hK _ _ _ _ _ _ _ _ _ _ _ _ _ _ _; refine hK _ _ ?_) | (rename_i hK _ _ _ _ _ _ _ _ _ _ _ _ _ _ _ _; refine hK _ _ ?_) | (rename_i hK _ _ _ _ _ _ _ _ _ _ _ _ _ _ _ _ _; refine hK _ _ ?_) | (rename_i hK _ _ _ _ _ _ _ _ _ _ _ _ _ _ _ _ _ _; refine hK _ _ ?_) | (rename_i hK _ _ _ _ _ _ _ _ _ _ _ _ _ _ _ _ _ _ _; refine hK _ _ ?_) | (rename_i hK _ _ _ _ _ _ _ _ _ _ _ _ _ _ _ _ _ _ _ _; refine hK _ _ ?_) | (rename_i hK _ _ _ _ _ _ _ _ _ _ _ _ _ _ _ _ _ _ _ _ _; refine hK _ _ ?_) | (rename_i hK _ _ _ _ _ _ _ _ _ _ _ _ _ _ _ _ _ _ _ _ _ _; refine hK _ _ ?_) | (rename_i hK _ _ _ _ _ _ _ _ _ _ _ _ _ _ _ _ _ _ _ _ _ _ _; refine hK _ _ ?_)
          refine (wpIn_wide (n := n)).1 ?_
          refine abs_world ?_
          intro Wb hWb
          have e1 : Below wr.heap.size wr (((w6.setCell ⟨wr.heap.size, 0, none⟩ (.int .i64 x.time)).setCell ⟨wr.heap.size, 1, none⟩ (.int .i64 x.campus)).setCell ⟨wr.heap.size, 2, none⟩ (.int .i64 x.no)) := ((Below.setCell hb6 (Nat.le_refl _) _).setCell (Nat.le_refl _) _).setCell (Nat.le_refl _) _
          have e2 := HJ.out.1 pre _ _ HJ1.out e1
          have e3 := HJ.out.2 pre _ ⟨Ba, 0, none⟩ (.slice (tailA (some ⟨ba, oa, none⟩) c) xs.length (c - 1)) e2 (.inl rfl)
          have e4 := HJ.out.2 pre _ ⟨Bb, 0, none⟩ (.slice (tailA (some ⟨bb, ob, none⟩) d) ys.length (d - 1)) e3 (.inr rfl)
          have hJd : ∀ pre W, J pre W → J pre W.drew := fun pre W h => HJ.out.1 pre _ _ h (Below.refl _ _).drew
          have hjb : J pre Wb := by rw [hWb]; with_reducible (first | exact e4 | exact hJd _ _ e4 | exact hJd _ _ (hJd _ _ e4) | exact hJd _ _ (hJd _ _ (hJd _ _ e4)) | exact hJd _ _ (hJd _ _ (hJd _ _ (hJd _ _ e4))))
          have hlow : ∀ b, b < n₀ → Wb.heap[b]? = w.heap[b]? := fun b hb => by rw [hWb]; simp only [drew_heap]; exact ((Below.heap_setCell _ _ _ b (by simp; omega)).trans ((Below.heap_setCell _ _ _ b (by simp; omega)).trans (e1.block b (by omega)))).trans (HS.out b hb)
          have n1 : ¬ wr.heap.size = Ba := by omega
          have n2 : ¬ wr.heap.size = Bb := by omega
          have n3 : ¬ Ba = wr.heap.size := by omega
          have n4 : ¬ Bb = wr.heap.size := by omega
          have n5 : ¬ Bb = Ba := fun e => hne e.symm
          have y1 : Wb.cell? ⟨Ba, 0, none⟩ = some (.slice (tailA (some ⟨ba, oa, none⟩) c) xs.length (c - 1)) := by rw [hWb]; simp [go_sem, g1, g2, g3, g4, s0, s1, s2, t0, t1, t2, n1, n2, n3, n4, n5, hne]
          have y2 : Wb.cell? ⟨Bb, 0, none⟩ = some (.slice (tailA (some ⟨bb, ob, none⟩) d) ys.length (d - 1)) := by rw [hWb]; simp [go_sem, g1, g2, g3, g4, s0, s1, s2, t0, t1, t2, n1, n2, n3, n4, n5, hne]
          have y3 : Wb.frozen? ⟨Ba, 0, none⟩ = false := by rw [hWb]; simp [go_sem, g1, g2, g3, g4, s0, s1, s2, t0, t1, t2, n1, n2, n3, n4, n5, hne]
          have y4 : Wb.frozen? ⟨Bb, 0, none⟩ = false := by rw [hWb]; simp [go_sem, g1, g2, g3, g4, s0, s1, s2, t0, t1, t2, n1, n2, n3, n4, n5, hne]
          have y5 : Wb.cell? ⟨wr.heap.size, 0, none⟩ = some (.int .i64 x.time) := by rw [hWb]; simp [go_sem, g1, g2, g3, g4, s0, s1, s2, t0, t1, t2, n1, n2, n3, n4, n5, hne]
          have y6 : Wb.cell? ⟨wr.heap.size, 1, none⟩ = some (.int .i64 x.campus) := by rw [hWb]; simp [go_sem, g1, g2, g3, g4, s0, s1, s2, t0, t1, t2, n1, n2, n3, n4, n5, hne]
          have y7 : Wb.cell? ⟨wr.heap.size, 2, none⟩ = some (.int .i64 x.no) := by rw [hWb]; simp [go_sem, g1, g2, g3, g4, s0, s1, s2, t0, t1, t2, n1, n2, n3, n4, n5, hne]
          have zz1 : Ba < Wb.heap.size := by have := e1.size; rw [hWb]; simp at this ⊢; omega
          have zz2 : Bb < Wb.heap.size := by have := e1.size; rw [hWb]; simp at this ⊢; omega
          have hmm := HM.out
          rw [mergeL_eq hlt] at hmm
          have HMM := Lib.hid hmm
          have HLOW := Lib.hid hlow
          obtain ⟨fn, tmps, assign, body, hy, hR⟩ := HY.out pre x Wb hjb ⟨mergeL xs ys, by have h := HMM.out; simpa using h⟩
          simp only [St.v] at hy
          clear e1 hWb hlow hmm hJd
          gi_wp2
          refine ⟨fun h => (by cases h), hR.mono ?_⟩
          rintro e W3 (⟨rfl, hJ3, hk3⟩ | ⟨rfl, hJx3⟩)
          · have hat := both_after (xs := xs) (ys := ys) (s := x) hfree hn h11w h12w zz1 zz2 hk3 hJ3 HMM.out y1 y2 y3 y4 (by first | omega | (simp only [List.length_cons, List.length_nil]; omega)) (by first | omega | (simp only [List.length_cons, List.length_nil]; omega)) (by omega) (by omega) (reads_tail HXw.out (by omega)) (reads_tail HYw.out (by omega)) HLOW.out
            gi_wp2
            go_roundw
            case rel => exact hat.1
            case measure => rw [hat.2, h1, h2]; simp only [lenV, List.length_cons, List.length_nil]; omega
          · gi_wp2
            refine bodyPost_ret (results_none rfl _ _ _) rfl ?_
            exact ⟨⟨_, rfl⟩, .inr ⟨_, trivial, hJx3⟩⟩
end Go.Proofs.Ytplfeelcijnkjaa
