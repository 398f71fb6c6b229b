/- Journals: the records on sectors, by the program's iterator. -/
import Derived.Test.YtgbkhmoplocmkaaJouE
import Derived.Test.YtgbkhmoplocmkaaSeqM
import Derived.StillTailTactics
import Derived.RegionTactic
import Derived.BigRegion
namespace Go.Proofs.Ytgbkhmoplocmkaa
open Go.RowKit Go.Shelf
set_option linter.unusedSimpArgs false
set_option linter.unusedVariables false
set_option maxRecDepth 20000
attribute [local go_sem] Oper.semAt_some

def num4 (s : List Int) : Int := numB (s.take 4)
def begB (s : List Int) : Bool := bits .and .u8 (s.getD 10 0) 1 != 0
def endB (s : List Int) : Bool := bits .and .u8 (s.getD 10 0) 2 != 0
def pieceB (s : List Int) : List Int := (s.drop 12).take (s.getD 11 0).toNat
/-- may s be the sector number n of a record that begins at a? -/
def okB (l : List (List Int)) (a n : Nat) (last : Int) (s : List Int) : Bool := !(!goodB s n || (begB s != (n == a) || (num4 s != num4 (l.getD a []) || decide (num4 s < last))))
/-- the rest of a record that begins at a: where it ends, and its bytes -/
def recGo (l : List (List Int)) (a : Nat) (last : Int) : List (List Int) → Nat → List Int → Option (Nat × List Int)
  | [], _, _ => none
  | s :: r, n, b => if okB l a n last s then (if endB s then some (n + 1, b ++ pieceB s) else recGo l a last r (n + 1) (b ++ pieceB s)) else none
def recsGo (l : List (List Int)) : Nat → Nat → Int → List (Nat × List Int)
  | 0, _, _ => []
  | f + 1, a, last => match recGo l a last (l.drop a) a [] with
    | none => []
    | some (n, b) => (n, b) :: recsGo l f n (num4 (l.getD a []))
def recsL (l : List (List Int)) : List (Nat × List Int) := recsGo l (l.length + 1) 0 0

theorem records_any (A : Option Addr) (n c : Nat) (w : World) :
    Calls Try.prog 32 #[.slice A n c] w fun e w' =>
      e = .returned (.func (.func 60) #[] #[.pointer (some ⟨w.heap.size, 0, none⟩)]) ∧ w' = w.alloc (.cells #[.slice A n c] 22) := by
  go_enter Try.func32, Try.ntmps32
  go_wp2_with fail
  go_ret
  exact ⟨rfl, rfl⟩

/-- the block of bytes is a block of bytes -/
def ByteBlk (W : World) (v : Sl) (bs : List Int) : Prop := 0 < bs.length → ∀ a, v.a = some a → a.block < W.heap.size ∧ ∃ cs fz, W.heap[a.block]? = some (.cells cs 5 fz)
theorem ByteBlk.step {W W' : World} {v : Sl} {bs : List Int} (h : ByteBlk W v bs) (hb : Below W.heap.size W W') : ByteBlk W' v bs := fun hp a e => by
  obtain ⟨h0, cs, fz, h1⟩ := h hp a e
  exact ⟨Nat.lt_of_lt_of_le h0 hb.size, cs, fz, (hb.block _ h0).trans h1⟩
theorem ByteBlk.put {W : World} {v : Sl} {bs : List Int} {L : Nat} {o o' : Obj} (h : ByteBlk W v bs) (hL : W.heap[L]? = some o) (ho : o.isCells = false) : ByteBlk (W.putObj L o') v bs := fun hp a e => by
  obtain ⟨h0, cs, fz, h1⟩ := h hp a e
  have hne : a.block ≠ L := fun e => by
    rw [e, hL] at h1
    cases h1
    cases ho
  exact ⟨by simpa using h0, cs, fz, (World.putObj_heap_other hne).trans h1⟩
theorem ByteBlk.of_owns {W : World} {B : Nat} {A : Option Addr} {n c : Nat} {bs : List Int} (h : Owns W B 5 1 byteE (.slice A n c) bs) : ByteBlk W ⟨A, n, c⟩ bs := fun hp a e => by
  rcases h.2 with ⟨hv, hx⟩ | ⟨g, cap, cur, hv, h2, h3, h4⟩
  · simp_all
  · cases hv
    simp only at e
    cases e
    exact ⟨(Array.getElem?_eq_some_iff.1 h3).1, _, _, h3⟩
/-- what the iterator yields -/
structure Rv where
  stop : Nat
  v : Sl
  bs : List Int
def Rv.key (x : Rv) : Nat × List Int := (x.stop, x.bs)
def Rv.args (x : Rv) : Array Value := #[.int .i64 x.stop, .slice x.v.a x.v.n x.v.c]

theorem recGo_stop {l : List (List Int)} {a : Nat} {last : Int} {k : Nat} {bs : List Int} {s : List Int} (hs : l[k]? = some s) (h : okB l a k last s = false) : recGo l a last (l.drop k) k bs = none := by
  have hl := (List.getElem?_eq_some_iff.1 hs).1
  rw [List.drop_eq_getElem_cons hl, (List.getElem?_eq_some_iff.1 hs).2]
  simp [recGo, h]
theorem recGo_end {l : List (List Int)} {a : Nat} {last : Int} {bs : List Int} : recGo l a last (l.drop l.length) l.length bs = none := by
  rw [List.drop_length]
  rfl
theorem recGo_more {l : List (List Int)} {a : Nat} {last : Int} {k : Nat} {bs : List Int} {s : List Int} (hs : l[k]? = some s) (h : okB l a k last s = true) (he : endB s = false) : recGo l a last (l.drop k) k bs = recGo l a last (l.drop (k + 1)) (k + 1) (bs ++ pieceB s) := by
  have hl := (List.getElem?_eq_some_iff.1 hs).1
  conv => lhs; rw [List.drop_eq_getElem_cons hl, (List.getElem?_eq_some_iff.1 hs).2]
  simp [recGo, h, he]
theorem recGo_full {l : List (List Int)} {a : Nat} {last : Int} {k : Nat} {bs : List Int} {s : List Int} (hs : l[k]? = some s) (h : okB l a k last s = true) (he : endB s = true) : recGo l a last (l.drop k) k bs = some (k + 1, bs ++ pieceB s) := by
  have hl := (List.getElem?_eq_some_iff.1 hs).1
  rw [List.drop_eq_getElem_cons hl, (List.getElem?_eq_some_iff.1 hs).2]
  simp [recGo, h, he]
theorem recsGo_none {l : List (List Int)} {f a : Nat} {last : Int} (h : recGo l a last (l.drop a) a [] = none) : recsGo l f a last = [] := by
  cases f
  · rfl
  · simp [recsGo, h]
theorem recsGo_some {l : List (List Int)} {f a n : Nat} {last : Int} {b : List Int} (h : recGo l a last (l.drop a) a [] = some (n, b)) : recsGo l (f + 1) a last = (n, b) :: recsGo l f n (num4 (l.getD a [])) := by
  simp [recsGo, h]
theorem okB_num {l : List (List Int)} {a k : Nat} {last : Int} {s : List Int} (h : okB l a k last s = true) : num4 s = num4 (l.getD a []) := by
  unfold okB at h
  simp at h
  exact h.2.2.1
theorem okB_good {l : List (List Int)} {a k : Nat} {last : Int} {s : List Int} (h : okB l a k last s = true) : goodB s k = true := by
  unfold okB at h
  simp at h
  exact h.1
theorem goodB_len {s : List Int} {k : Nat} (h : goodB s k = true) : s.getD 11 0 ≤ 112 := by
  unfold goodB shapeOk at h
  simp at h
  simp
  omega

set_option maxRecDepth 100000 in
set_option maxHeartbeats 2000000 in
theorem records_iter (w : World) (nn Ba : Nat) (l : List (List Int)) (hll : l.length ≤ 4096) (hls : ∀ s ∈ l, s.length = 128) (free : Nat → Prop) (sv : Sl)
    (h1 : w.cell? ⟨Ba, 0, none⟩ = some (.slice sv.a sv.n sv.c)) (h9 : Se w (fun b => b < w.heap.size ∧ ¬ free b) sv l) (h11 : Ba < w.heap.size) (h12 : ¬ free Ba) :
    IterM Fence.wide nn Try.prog 60 #[.pointer (some ⟨Ba, 0, none⟩)] Rv.args (fun _ => False) (Keep w.heap.size free) (fun x W => By W (fun b => w.heap.size ≤ b) x.v x.bs ∧ ByteBlk W x.v x.bs)
      (fun ys => ys.map Rv.key = recsL l) (fun _ => True) (fun ys => ∃ t, ys.map Rv.key ++ t = recsL l) w := by
  intro ly J Jx W hW hJ hJx hY h0
  refine callsIn_wide.2 ?_
  simp only [List.append_toArray, List.cons_append, List.nil_append]
  have hln := h9.len
  obtain ⟨A, m, c⟩ := sv
  simp only at h1 hln
  subst hln
  have HX := Lib.hid h9
  have HJ := Lib.hid hJ
  have HY := Lib.hid hY
  have H0 := Lib.hid h0
  have HC := Lib.hid h1
  have HW := Lib.hid hW
  have HLS := Lib.hid hls
  clear h1 h9 h0 hJ hY hJx hW hls
  go_enter Try.func60, Try.ntmps60
  go_step3
  go_wp2_with fail
  go_step3
  go_wp2_with fail
  go_loopw [3, 4] (fun t3 t4 wr => ∃ (pre : List Rv) (a f : Nat) (last : Int), t3 = .int .i64 a ∧ t4 = .int .u64 last ∧ J pre wr ∧ pre.map Rv.key ++ recsGo l f a last = recsL l ∧ a ≤ l.length ∧ l.length < a + f ∧ Keep w.heap.size free w wr) (fun t3 _ _ => l.length + 1 - (intOf t3).toNat)
  case atStart => exact ⟨[], 0, l.length + 1, 0, rfl, rfl, H0.out, rfl, Nat.zero_le _, by omega, (Keep.refl _ _ w).below HW.out (Nat.le_refl _)⟩
  case round =>
    obtain ⟨pre, a, f, last, rfl, rfl, hj, hpre, hal, haf, hkp⟩ := hrel
    obtain ⟨f, rfl⟩ : ∃ f', f = f' + 1 := ⟨f - 1, by omega⟩
    have HJ1 := Lib.hid hj
    have HPR := Lib.hid hpre
    have HKP := Lib.hid hkp
    have hzr := hkp.1
    have HXR : Hid (Se wr (fun b => b < w.heap.size ∧ ¬ free b) ⟨A, l.length, c⟩ l) := Lib.hid (HX.out.keep ⟨hkp.1, fun b hb _ => hkp.2 b hb.1 hb.2⟩)
    have HCR : Hid (wr.cell? ⟨Ba, 0, none⟩ = some (.slice A l.length c)) := Lib.hid ((hkp.cell (a := ⟨Ba, 0, none⟩) h11 h12).trans HC.out)
    clear hj hpre hkp
    obtain ⟨w1, hw1⟩ : ∃ x, x = wr := ⟨_, rfl⟩
    subst hw1
    go_wp2_with fail
    go_loopw [3, 4, 5, 6] (fun t3 t4 t5 t6 wi => t3 = .int .i64 a ∧ t4 = .int .u64 last ∧ ∃ (k : Nat) (bs : List Int), a ≤ k ∧ k ≤ l.length ∧ t6 = .int .i64 k ∧ Owns wi w1.heap.size 5 1 byteE t5 bs ∧ (∀ b ∈ bs, 0 ≤ b ∧ b < 256) ∧ bs.length ≤ 256 * k ∧ recGo l a last (l.drop k) k bs = recGo l a last (l.drop a) a [] ∧ Below w1.heap.size w1 wi) (fun _ _ _ t6 _ => l.length - (intOf t6).toNat)
    case atStart => exact ⟨rfl, rfl, a, [], Nat.le_refl _, hal, rfl, Owns.nil_ _ _ _ _ _, by simp, by simp, rfl, Below.refl _ _⟩
    case round =>
      obtain ⟨rfl, rfl, k, bs, hak, hkl, rfl, ho, hbb, hbl, hgo, hbw⟩ := hrel
      obtain ⟨wi, hwi⟩ : ∃ x, x = wr := ⟨_, rfl⟩
      subst hwi
      have HO := Lib.hid ho
      have HBB := Lib.hid hbb
      have HGO := Lib.hid hgo
      have HBW := Lib.hid hbw
      have hzi := hbw.size
      have HXI := Lib.hid (HXR.out.step hbw)
      have hci : wi.cell? ⟨Ba, 0, none⟩ = some (.slice A l.length c) := (hbw.cell (p := ⟨Ba, 0, none⟩) (by show Ba < _; omega)).trans HCR.out
      have hBi : Ba < wi.heap.size := by omega
      clear ho hbb hgo hbw
      by_cases hlt : k < l.length
      · obtain ⟨bA, oA, v, s, hA, hbA, hsk, hby, hcv⟩ := HXI.out.at_ hlt
        obtain ⟨bA', oA', u, sa, hA', _, hsa, hbu, hcu⟩ := HXI.out.at_ (i := a) (by omega)
        simp only at hA hA'
        rw [hA] at hA'
        cases hA'
        subst hA
        have hsl : s.length = 128 := HLS.out s (List.mem_of_getElem? hsk)
        have hsal : sa.length = 128 := HLS.out sa (List.mem_of_getElem? hsa)
        obtain ⟨b1, o1, n, hva, hb1, hx11, hn0, hn1, hc11⟩ := hby.at_ (k := 11) (by omega)
        obtain ⟨b1', o1', m, hva', _, hx10, hm0, hm1, hc10⟩ := hby.at_ (k := 10) (by omega)
        rw [hva] at hva'
        cases hva'
        obtain ⟨b2, o2, _, hua, hb2, _⟩ := hbu.at_ (k := 0) (by omega)
        obtain ⟨v, nv, cv⟩ := v
        obtain ⟨u, nu, cu⟩ := u
        simp only at hva hua hcv hcu
        subst hva hua
        obtain rfl : nv = 128 := by have := hby.1.1; simp only at this; omega
        obtain rfl : nu = 128 := by have := hbu.1.1; simp only at this; omega
        have hcc : 128 ≤ cv := by have := hby.1.2.1; simp only at this; omega
        have hcc2 : 128 ≤ cu := by have := hbu.1.2.1; simp only at this; omega
        have hmv : cv ≤ 9223372036854775807 := by have := hby.1.2.2.1; simp only [maxLen] at this; omega
        obtain ⟨ki, hki⟩ : ∃ x : Int, x = k := ⟨_, rfl⟩
        obtain ⟨G, hG⟩ : ∃ G, G = goodB s k := ⟨_, rfl⟩
        obtain ⟨q1, hq1⟩ : ∃ q, q = num4 s := ⟨_, rfl⟩
        obtain ⟨q2, hq2⟩ : ∃ q, q = num4 sa := ⟨_, rfl⟩
        have HGD : Hid (∀ WC, Below wi.heap.size wi WC → Calls Try.prog 61 #[.slice (some ⟨b1, o1, none⟩) 128 cv, .int .i64 ki] WC fun e w' => e = .returned (.bool G) ∧ Below WC.heap.size WC w') := Lib.hid (fun WC hWC => by rw [hG, hki]; exact good_any ⟨some ⟨b1, o1, none⟩, 128, cv⟩ s k WC (hby.step hWC) hsl ⟨by omega, by omega⟩)
        have HG1 : Hid (∀ WC, Below wi.heap.size wi WC → Calls Try.prog 41 #[.slice (some ⟨b1, o1, none⟩) 4 cv] WC fun e w' => e = .returned (.int .u64 q1) ∧ WC = w') := Lib.hid (fun WC hWC => by
          have h1 := (hby.step hWC).sub 0 4 (by omega)
          rw [hq1]
          exact get_any ⟨some ⟨b1, o1, none⟩, 4, cv⟩ (s.take 4) WC (by simpa using h1) (by simp; omega))
        have HG2 : Hid (∀ WC, Below wi.heap.size wi WC → Calls Try.prog 41 #[.slice (some ⟨b2, o2, none⟩) 4 cu] WC fun e w' => e = .returned (.int .u64 q2) ∧ WC = w') := Lib.hid (fun WC hWC => by
          have h1 := (hbu.step hWC).sub 0 4 (by omega)
          rw [hq2]
          exact get_any ⟨some ⟨b2, o2, none⟩, 4, cu⟩ (sa.take 4) WC (by simpa using h1) (by simp; omega))
        have hm10 : s.getD 10 0 = m := by rw [List.getD_eq_getElem?_getD, hx10]; rfl
        have hn11 : s.getD 11 0 = n := by rw [List.getD_eq_getElem?_getD, hx11]; rfl
        have hsad : l.getD a [] = sa := by rw [List.getD_eq_getElem?_getD, hsa]; rfl
        have hokE : okB l a k last s = !(!G || (((bits .and .u8 m 1 != 0) != (ki == (a : Int))) || ((q1 != q2) || decide (q1 < last)))) := by
          unfold okB begB
          rw [hm10, hsad, ← hq1, ← hq2, ← hG]
          have : (k == a) = (ki == (a : Int)) := by rw [Bool.eq_iff_iff]; simp; omega
          rw [this]
        have HOKE := Lib.hid hokE
        have HBY := Lib.hid hby
        have HSK := Lib.hid hsk
        have HSA := Lib.hid hsa
        have HQ1 := Lib.hid hq1
        have HQ2 := Lib.hid hq2
        have HGG := Lib.hid hG
        have HM10 := Lib.hid hm10
        have HN11 := Lib.hid hn11
        have HSAD := Lib.hid hsad
        have HSL := Lib.hid hsl
        clear hokE hby hbu hsk hsa hq1 hq2 hG hm10 hn11 hsad hx11 hx10 hsl hsal
        obtain ⟨i0, hinf, _, _, _⟩ := info_parts Try.infoByte
        have hs1 := fun W => run_slice_to (P := Try.prog) Try.underlying35 hinf (some ⟨b1, o1, none⟩) 128 cv .i64 4 (by omega) (by omega) W
        have hs2 := fun W => run_slice_to (P := Try.prog) Try.underlying35 hinf (some ⟨b2, o2, none⟩) 128 cu .i64 4 (by omega) (by omega) W
        rw [show (4 : Int).toNat = 4 from rfl] at hs1 hs2
        have hai : (a : Int) < (l.length : Int) := by omega
        have hai2 : a < l.length := by omega
        have hai0 : (0 : Int) ≤ (a : Int) := by omega
        clear hinf
        go_upto_region 6 with fail
        rw [← hki]
        have HKI := Lib.hid hki
        clear hki
        go_cut [52] from 19 to 76 (fun t wx => t = .bool (!okB l a k last s) ∧ Below wi.heap.size wi wx)
        case first =>
          cases G
          · have HE : Hid (okB l a k last s = false) := Lib.hid (by rw [HOKE.out]; rfl)
            clear HOKE
            go_wp2_with fail
            refine wp_region_below (by kernel_rfl) (by kernel_rfl) ?_
            repeat (first
              | go_big_quiet_skip
              | (go_big_quiet_want
                 first
                   | (apply quiet_val
                      focus (
                        intro WC hWC
                        obtain ⟨hcc0, hff0⟩ := bcell hWC
                        go_simp
                        all_goals rfl
                        done)
                      go_simp
                      go_big_quiet_on)
                   | (apply quiet_call
                      focus (
                        intro WC hWC
                        go_simp
                        all_goals (first | rfl | exact ⟨rfl, rfl⟩)
                        done)
                      focus (
                        intro WC hWC
                        ((with_reducible refine Calls.mono (HGD.out WC hWC) ?_); exact fun e w' h => ⟨h.1, hWC.trans (h.2.mono hWC.size)⟩)
                        done)
                      go_simp
                      go_big_quiet_on)
                   | (apply quiet_call
                      focus (
                        intro WC hWC
                        go_simp
                        all_goals (first | rfl | exact ⟨rfl, rfl⟩)
                        done)
                      focus (
                        intro WC hWC
                        ((with_reducible refine Calls.mono (HG1.out WC hWC) ?_); exact fun e w' h => ⟨h.1, h.2 ▸ hWC⟩)
                        done)
                      go_simp
                      go_big_quiet_on)
                   | (apply quiet_call
                      focus (
                        intro WC hWC
                        go_simp
                        all_goals (first | rfl | exact ⟨rfl, rfl⟩)
                        done)
                      focus (
                        intro WC hWC
                        ((with_reducible refine Calls.mono (HG2.out WC hWC) ?_); exact fun e w' h => ⟨h.1, h.2 ▸ hWC⟩)
                        done)
                      go_simp
                      go_big_quiet_on)))
            refine wpQuiet_nil ?_
            intro w2 hw2
            go_wp2_with fail
            go_meet
            exact ⟨by rw [HE.out]; rfl, hw2⟩
          · cases t1 : (bits .and .u8 m 1 != 0) <;> cases t2 : (ki == (a : Int))
            case true.false | false.true =>
              have HE : Hid (okB l a k last s = false) := Lib.hid (by rw [HOKE.out, t1, t2]; rfl)
              clear HOKE
              go_wp2_with fail
              refine wp_region_below (by kernel_rfl) (by kernel_rfl) ?_
              repeat (first
                | go_big_quiet_skip
                | (go_big_quiet_want
                   first
                     | (apply quiet_val
                        focus (
                          intro WC hWC
                          obtain ⟨hcc0, hff0⟩ := bcell hWC
                          go_simp
                          all_goals rfl
                          done)
                        go_simp
                        go_big_quiet_on)
                     | (apply quiet_call
                        focus (
                          intro WC hWC
                          go_simp
                          all_goals (first | rfl | exact ⟨rfl, rfl⟩)
                          done)
                        focus (
                          intro WC hWC
                          ((with_reducible refine Calls.mono (HGD.out WC hWC) ?_); exact fun e w' h => ⟨h.1, hWC.trans (h.2.mono hWC.size)⟩)
                          done)
                        go_simp
                        go_big_quiet_on)
                     | (apply quiet_call
                        focus (
                          intro WC hWC
                          go_simp
                          all_goals (first | rfl | exact ⟨rfl, rfl⟩)
                          done)
                        focus (
                          intro WC hWC
                          ((with_reducible refine Calls.mono (HG1.out WC hWC) ?_); exact fun e w' h => ⟨h.1, h.2 ▸ hWC⟩)
                          done)
                        go_simp
                        go_big_quiet_on)
                     | (apply quiet_call
                        focus (
                          intro WC hWC
                          go_simp
                          all_goals (first | rfl | exact ⟨rfl, rfl⟩)
                          done)
                        focus (
                          intro WC hWC
                          ((with_reducible refine Calls.mono (HG2.out WC hWC) ?_); exact fun e w' h => ⟨h.1, h.2 ▸ hWC⟩)
                          done)
                        go_simp
                        go_big_quiet_on)))
              refine wpQuiet_nil ?_
              intro w2 hw2
              go_wp2_with fail
              go_meet
              exact ⟨by rw [HE.out]; rfl, hw2⟩
            all_goals
              cases t3 : (q1 != q2)
              · have HE : Hid (okB l a k last s = !decide (q1 < last)) := Lib.hid (by rw [HOKE.out, t1, t2, t3]; simp)
                clear HOKE
                go_wp2_with fail
                refine wp_region_below (by kernel_rfl) (by kernel_rfl) ?_
                repeat (first
                  | go_big_quiet_skip
                  | (go_big_quiet_want
                     first
                       | (apply quiet_val
                          focus (
                            intro WC hWC
                            obtain ⟨hcc0, hff0⟩ := bcell hWC
                            go_simp
                            all_goals rfl
                            done)
                          go_simp
                          go_big_quiet_on)
                       | (apply quiet_call
                          focus (
                            intro WC hWC
                            go_simp
                            all_goals (first | rfl | exact ⟨rfl, rfl⟩)
                            done)
                          focus (
                            intro WC hWC
                            ((with_reducible refine Calls.mono (HGD.out WC hWC) ?_); exact fun e w' h => ⟨h.1, hWC.trans (h.2.mono hWC.size)⟩)
                            done)
                          go_simp
                          go_big_quiet_on)
                       | (apply quiet_call
                          focus (
                            intro WC hWC
                            go_simp
                            all_goals (first | rfl | exact ⟨rfl, rfl⟩)
                            done)
                          focus (
                            intro WC hWC
                            ((with_reducible refine Calls.mono (HG1.out WC hWC) ?_); exact fun e w' h => ⟨h.1, h.2 ▸ hWC⟩)
                            done)
                          go_simp
                          go_big_quiet_on)
                       | (apply quiet_call
                          focus (
                            intro WC hWC
                            go_simp
                            all_goals (first | rfl | exact ⟨rfl, rfl⟩)
                            done)
                          focus (
                            intro WC hWC
                            ((with_reducible refine Calls.mono (HG2.out WC hWC) ?_); exact fun e w' h => ⟨h.1, h.2 ▸ hWC⟩)
                            done)
                          go_simp
                          go_big_quiet_on)))
                refine wpQuiet_nil ?_
                intro w2 hw2
                go_wp2_with fail
                go_meet
                exact ⟨by rw [HE.out]; simp, hw2⟩
              · have HE : Hid (okB l a k last s = false) := Lib.hid (by rw [HOKE.out, t1, t2, t3]; simp)
                clear HOKE
                go_wp2_with fail
                refine wp_region_below (by kernel_rfl) (by kernel_rfl) ?_
                repeat (first
                  | go_big_quiet_skip
                  | (go_big_quiet_want
                     first
                       | (apply quiet_val
                          focus (
                            intro WC hWC
                            obtain ⟨hcc0, hff0⟩ := bcell hWC
                            go_simp
                            all_goals rfl
                            done)
                          go_simp
                          go_big_quiet_on)
                       | (apply quiet_call
                          focus (
                            intro WC hWC
                            go_simp
                            all_goals (first | rfl | exact ⟨rfl, rfl⟩)
                            done)
                          focus (
                            intro WC hWC
                            ((with_reducible refine Calls.mono (HGD.out WC hWC) ?_); exact fun e w' h => ⟨h.1, hWC.trans (h.2.mono hWC.size)⟩)
                            done)
                          go_simp
                          go_big_quiet_on)
                       | (apply quiet_call
                          focus (
                            intro WC hWC
                            go_simp
                            all_goals (first | rfl | exact ⟨rfl, rfl⟩)
                            done)
                          focus (
                            intro WC hWC
                            ((with_reducible refine Calls.mono (HG1.out WC hWC) ?_); exact fun e w' h => ⟨h.1, h.2 ▸ hWC⟩)
                            done)
                          go_simp
                          go_big_quiet_on)
                       | (apply quiet_call
                          focus (
                            intro WC hWC
                            go_simp
                            all_goals (first | rfl | exact ⟨rfl, rfl⟩)
                            done)
                          focus (
                            intro WC hWC
                            ((with_reducible refine Calls.mono (HG2.out WC hWC) ?_); exact fun e w' h => ⟨h.1, h.2 ▸ hWC⟩)
                            done)
                          go_simp
                          go_big_quiet_on)))
                refine wpQuiet_nil ?_
                intro w2 hw2
                go_wp2_with fail
                go_meet
                exact ⟨by rw [HE.out]; rfl, hw2⟩
        case rest =>
          obtain ⟨w3, hwc⟩ : ∃ X, X = wc := ⟨_, rfl⟩
          subst hwc
          obtain ⟨rfl, hb3⟩ := hcut
          have HO3 := Lib.hid (HO.out.below hb3 (Nat.le_refl _))
          have HBW3 := Lib.hid (HBW.out.trans (hb3.mono HBW.out.size))
          have HBY3 := Lib.hid (HBY.out.step hb3)
          have hpb := HBY.out.1.2.2.2.2.2 (by rw [HSL.out]; omega) _ rfl
          have c10 := (hb3.cell (p := ⟨b1, o1 + 10, none⟩) hb1).trans hc10
          have c11 := (hb3.cell (p := ⟨b1, o1 + 11, none⟩) hb1).trans hc11
          have hz3 := hb3.size
          have hb13 : b1 < w3.heap.size := by omega
          clear hb3 hc10 hc11 hci hcv hcu HGD HG1 HG2
          cases hok : okB l a k last s
          · have HN : Hid (recsGo l (f + 1) a last = []) := Lib.hid (recsGo_none (by rw [← HGO.out]; exact recGo_stop HSK.out hok))
            have HJ3 : Hid (J pre w3) := Lib.hid (HJ.out.1 pre w1 w3 HJ1.out HBW3.out)
            clear hok HOKE
            go_wp2_with fail
            try rw [Exit.noGoto_ret]
            refine bodyPost_ret (results_none rfl _ _ _) rfl ?_
            exact ⟨⟨_, rfl⟩, .inl ⟨pre, by have := HPR.out; rw [HN.out, List.append_nil] at this; exact this, HJ3.out⟩⟩
          · have hn112 : n ≤ 112 := HN11.out ▸ goodB_len (okB_good hok)
            have HOK := Lib.hid hok
            obtain ⟨i0, hinf, hz0, hz1, hz2⟩ := info_parts Try.infoByte
            have hpc : pieceB s = (s.drop 12).take n.toNat := by unfold pieceB; rw [HN11.out]
            have hpl : (pieceB s).length = n.toNat := by rw [hpc]; have := HSL.out; simp; omega
            have HRD : Hid (Reads w3 w3.heap.size (some ⟨b1, o1 + 12, none⟩) 1 byteE (pieceB s)) := Lib.hid (by rw [hpc]; exact (HBY3.out.sub 12 n.toNat (by rw [HSL.out]; omega)).1.reads)
            have HPB : Hid (∀ b ∈ pieceB s, 0 ≤ b ∧ b < 256) := Lib.hid (by rw [hpc]; exact (HBY3.out.sub 12 n.toNat (by rw [HSL.out]; omega)).2)
            have hsl3 : ∀ W, (Instr.slice 35 (.slice (some ⟨b1, o1, none⟩) 128 cv) (some (.int .i64 12)) (some (.int .i64 (12 + n))) none).run Try.prog W = .ok (.slice (some ⟨b1, o1 + 12, none⟩) (pieceB s).length (cv - 12)) W := fun W => by
              have := run_slice_mid (P := Try.prog) Try.underlying35 hinf (some ⟨b1, o1, none⟩) 128 cv .i64 .i64 12 (12 + n) (by omega) (by omega) (by omega) W
              rw [this, hz1, if_neg (by omega), hpl]
              simp [Go.WideShapes.add_plain]
              omega
            have HPL := Lib.hid hpl
            have HI := Lib.hid hinf
            have hbs := hbl
            obtain ⟨pc, hpce⟩ : ∃ pc, pc = pieceB s := ⟨_, rfl⟩
            rw [← hpce] at HRD HPB HPL hsl3
            have HPC := Lib.hid hpce
            obtain ⟨A5, c5, rfl, hA5, _⟩ := HO3.out.shape
            clear hok HOKE hpc hpl hinf hpce hs1 hs2
            go_wp2_with (at_builtin; refine stop_mk ?_)
            refine stop_out (wpList_append_reads (en := byteE) (sz := 1) _ rfl _ _ _ rfl byteE_len byteE_one w1.heap.size 5 i0 _ 1 Try.underlying35 HI.out hz0 hz1 hz2 rfl (by omega) _ bs rfl HO3.out w3.heap.size (some ⟨b1, o1 + 12, none⟩) (cv - 12) pc rfl HRD.out (fun h => by cases h) (by have := HPL.out; simp [maxLen]; omega) (by have := HPL.out; simp; omega) HBW3.out.size ?_)
            intro v4 w4 ho4 hg4 _ _
            obtain ⟨zs, hzs⟩ : ∃ zs, zs = bs ++ pc := ⟨_, rfl⟩
            rw [← hzs] at ho4
            have hzl : zs.length ≤ 256 * (k + 1) := by rw [hzs, List.length_append, HPL.out]; omega
            have HZB : Hid (∀ b ∈ zs, 0 ≤ b ∧ b < 256) := Lib.hid (fun b hb => by rw [hzs] at hb; rcases List.mem_append.1 hb with h | h; exact HBB.out b h; exact HPB.out b h)
            have HZS := Lib.hid hzs
            have hki0 : 0 ≤ ki := by have := HKI.out; omega
            have hki1 : ki ≤ 4096 := by have := HKI.out; omega
            clear hzs
            have HO4 := Lib.hid ho4
            have HBW4 := Lib.hid (HBW3.out.grown hg4 HBW3.out.size HO3.out.base_le)
            obtain ⟨A4, c4, rfl, _, _⟩ := ho4.shape
            have hown : ∀ g, (Value.slice A5 bs.length c5).ownBlock = some g → w1.heap.size ≤ g := HO3.out.base_le
            have hlow : ∀ b, b < w.heap.size → w4.heap[b]? = w3.heap[b]? := fun b hb => hg4.block b (by have := HBW3.out.size; omega) (fun e => by have := hown b e.symm; omega)
            have c10 := (World.cell?_of_block (a := ⟨b1, o1 + 10, none⟩) (hlow b1 hpb.1)).trans c10
            have HBY4 := Lib.hid (HBY3.out.keep ⟨hg4.size, fun b hb _ => hlow b hb.1⟩)
            have hb14 : b1 < w4.heap.size := by have := hg4.size; omega
            clear ho4 hg4 hown hlow c11 hsl3 hz0 hz1 hz2
            cases he : (bits .and .u8 m 2 != 0)
            · have HEN : Hid (endB s = false) := Lib.hid (by unfold endB; rw [HM10.out]; exact he)
              have HGO4 : Hid (recGo l a last (l.drop (k + 1)) (k + 1) zs = recGo l a last (l.drop a) a []) := Lib.hid (by rw [← HGO.out, recGo_more HSK.out HOK.out HEN.out, HZS.out, HPC.out])
              go_wp2_with fail
              go_roundw
              case rel => exact ⟨rfl, rfl, k + 1, zs, by omega, by omega, congrArg (Value.int .i64) (by have := HKI.out; omega), HO4.out, HZB.out, hzl, HGO4.out, HBW4.out⟩
              case measure => have := HKI.out; simp [intOf]; omega
            · have HEN : Hid (endB s = true) := Lib.hid (by unfold endB; rw [HM10.out]; exact he)
              have HGT : Hid (Calls Try.prog 41 #[.slice (some ⟨b1, o1, none⟩) 4 cv] w4 fun e w' => e = .returned (.int .u64 q1) ∧ w4 = w') := Lib.hid (by
                have h1 := HBY4.out.sub 0 4 (by rw [HSL.out]; omega)
                rw [HQ1.out]
                exact get_any ⟨some ⟨b1, o1, none⟩, 4, cv⟩ (s.take 4) w4 (by simpa using h1) (by simp; omega))
              have HQ12 : Hid (q1 = num4 (l.getD a [])) := Lib.hid (by rw [HQ1.out]; exact okB_num HOK.out)
              have HFU : Hid (recGo l a last (l.drop a) a [] = some (k + 1, zs)) := Lib.hid (by rw [← HGO.out, recGo_full HSK.out HOK.out HEN.out, HZS.out, HPC.out])
              have HRS : Hid (recsGo l (f + 1) a last = (k + 1, zs) :: recsGo l f (k + 1) q1) := Lib.hid (by rw [recsGo_some HFU.out, HQ12.out])
              have HM4 : Hid (By w4 (fun b => w.heap.size ≤ b) ⟨A4, zs.length, c4⟩ zs) := Lib.hid ⟨(SlR.of_owns byteE_len HO4.out).mono (fun b hb => by omega), HZB.out⟩
              have HJ4 : Hid (J pre w4) := Lib.hid (HJ.out.1 pre w1 w4 HJ1.out HBW4.out)
              obtain ⟨fn, tmps, assign, body, hy, hR⟩ := HY.out pre ⟨k + 1, ⟨A4, zs.length, c4⟩, zs⟩ w4 HJ4.out ⟨HM4.out, ByteBlk.of_owns HO4.out⟩ ⟨recsGo l f (k + 1) q1, by have h := HPR.out; rw [HRS.out] at h; simpa [Rv.key] using h⟩
              have hk1i : ((k + 1 : Nat) : Int) = ki + 1 := by have := HKI.out; omega
              simp only [Rv.args, hk1i] at hy
              have HK1 := Lib.hid hk1i
              clear hk1i
              go_wp2_with fail
              refine HGT.out.mono ?_
              rintro e w5 ⟨rfl, rfl⟩
              go_upto_region 10 with fail
              refine (wpIn_wide (n := nn)).1 ?_
              gi_wp2
              refine ⟨fun h => (by cases h), hR.mono ?_⟩
              rintro e W3 (⟨rfl, hJ3, hk3⟩ | ⟨rfl, hJx3⟩)
              · have HJ5 := Lib.hid hJ3
                have HK5 := Lib.hid ((HKP.out.below HBW4.out hzr).trans hk3)
                clear hJ3 hk3
                gi_wp2
                go_wp2_with fail
                go_roundw
                case rel => exact ⟨pre ++ [⟨k + 1, ⟨A4, zs.length, c4⟩, zs⟩], k + 1, f, q1, congrArg (Value.int .i64) (by have := HKI.out; omega), rfl, HJ5.out, by have h := HPR.out; rw [HRS.out] at h; simpa [Rv.key] using h, by omega, by omega, HK5.out⟩
                case measure => have := HKI.out; simp [intOf]; omega
              · gi_wp2
                go_wp2_with fail
                try rw [Exit.noGoto_ret]
                refine bodyPost_ret (results_none rfl _ _ _) rfl ?_
                exact ⟨⟨_, rfl⟩, .inr ⟨_, trivial, hJx3⟩⟩
      · obtain rfl : k = l.length := by omega
        have HN : Hid (recsGo l (f + 1) a last = []) := Lib.hid (recsGo_none (HGO.out ▸ recGo_end))
        have HJi : Hid (J pre wi) := Lib.hid (HJ.out.1 pre w1 wi HJ1.out HBW.out)
        go_wp2_with fail
        try rw [Exit.noGoto_ret]
        refine bodyPost_ret (results_none rfl _ _ _) rfl ?_
        exact ⟨⟨_, rfl⟩, .inl ⟨pre, by have := HPR.out; rw [HN.out, List.append_nil] at this; exact this, HJi.out⟩⟩
end Go.Proofs.Ytgbkhmoplocmkaa
