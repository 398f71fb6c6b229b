/- Value and Capacity: plain functions, and the program's walked. -/
import Derived.Test.YtjpnbpfbdkbknaaFlowJ
namespace Go.Proofs.Ytjpnbpfbdkbknaa
open Go.RowKit Go.Shelf
set_option linter.unusedSimpArgs false
set_option linter.unusedVariables false

def okAt (l : List Ed) (fs : List Int) (i : Nat) : Bool := decide (0 ≤ fs.getD i 0) && decide (fs.getD i 0 ≤ (l.getD i default).m)
def okFl (l : List Ed) (fs : List Int) : Bool := decide (fs.length = l.length) && (List.range l.length).all (okAt l fs)
def restV (l : List Ed) (fs : List Int) (a b : Int) (v : Nat) : Bool := decide ((v : Int) = a) || (decide ((v : Int) = b) || decide (outE l fs v = 0))
def consF (n : Nat) (l : List Ed) (a b : Int) (fs : List Int) : Bool := (List.range n).all (restV l fs a b)
def valueF (n a b : Int) (l : List Ed) (fs : List Int) : Int × Int := if okX n l a b && (okFl l fs && consF n.toNat l a b fs) then (outE l fs a, 0) else (0, 180)
def capF (n a b : Int) (l : List Ed) (cs : List Bool) : Int × Int :=
  if okX n l a b && (decide ((cs.length : Int) = n) && (cs.getD a.toNat false && !cs.getD b.toNat false)) then (cutE l (fun v => cs.getD v.toNat false), 0) else (0, 180)
theorem okFl_bd {l : List Ed} {fs : List Int} : okFl l fs = true ↔ Bd l fs := by
  rw [bd_iff]
  simp [okFl, okAt, List.all_eq_true]
theorem out_snoc {e : Ed} {x : Int} (v : Int) : ∀ (l : List Ed) (xs : List Int), xs.length = l.length → outE (l ++ [e]) (xs ++ [x]) v = outE l xs v + ((if e.f = v then x else 0) - (if e.t = v then x else 0))
  | [], [], _ => by simp [outE]
  | [], _ :: _, h => by simp at h
  | _ :: _, [], h => by simp at h
  | e' :: l, x' :: xs, h => by
    simp only [List.cons_append, outE, out_snoc v l xs (by simpa using h)]
    omega
theorem take_snoc {α : Type} {l : List α} {k : Nat} {x : α} (h : l[k]? = some x) : l.take (k + 1) = l.take k ++ [x] := by
  have hl := (List.getElem?_eq_some_iff.1 h).1
  rw [List.take_succ_eq_append_getElem hl, (List.getElem?_eq_some_iff.1 h).2]
/-- the sums after k edges -/
def outK (l : List Ed) (fs : List Int) (k : Nat) (v : Int) : Int := outE (l.take k) (fs.take k) v
def outsL (n : Nat) (l : List Ed) (fs : List Int) (k : Nat) : List Int := (List.range n).map fun (v : Nat) => outK l fs k (v : Int)
theorem outsL_len (n : Nat) (l : List Ed) (fs : List Int) (k : Nat) : (outsL n l fs k).length = n := by simp [outsL]
theorem outsL_at {n : Nat} (l : List Ed) (fs : List Int) (k : Nat) {v : Nat} (hv : v < n) : (outsL n l fs k).getD v 0 = outK l fs k (v : Int) := by
  simp [outsL, List.getD_eq_getElem?_getD, List.getElem?_range hv]
theorem outK_next {l : List Ed} {fs : List Int} {k : Nat} {e : Ed} {x : Int} (he : l[k]? = some e) (hx : fs[k]? = some x) (v : Int) : outK l fs (k + 1) v = outK l fs k v + ((if e.f = v then x else 0) - (if e.t = v then x else 0)) := by
  unfold outK
  rw [take_snoc he, take_snoc hx]
  refine out_snoc v _ _ ?_
  have h1 := (List.getElem?_eq_some_iff.1 he).1
  have h2 := (List.getElem?_eq_some_iff.1 hx).1
  simp
  omega
theorem outK_all {l : List Ed} {fs : List Int} (h : fs.length = l.length) (v : Int) : outK l fs l.length v = outE l fs v := by
  unfold outK
  rw [List.take_of_length_le (Nat.le_refl _), List.take_of_length_le (by omega)]
theorem outsL_next {n : Nat} {l : List Ed} {fs : List Int} {k f t : Nat} {m x : Int} (he : l[k]? = some ⟨(f : Int), (t : Int), m⟩) (hx : fs[k]? = some x) (hf : f < n) (ht : t < n) :
    ((outsL n l fs k).set f (outK l fs k f + x)).set t (((outsL n l fs k).set f (outK l fs k f + x)).getD t 0 - x) = outsL n l fs (k + 1) := by
  apply List.ext_getElem?
  intro i
  rw [List.getElem?_set, getD_set _ _ _ _ (by rw [outsL_len]; exact hf)]
  have hl : ((outsL n l fs k).set f (outK l fs k f + x)).length = n := by rw [List.length_set, outsL_len]
  by_cases hi : i < n
  · have e1 : (outsL n l fs (k + 1))[i]? = some (outK l fs (k + 1) i) := by simp [outsL, List.getElem?_range hi]
    have e2 : (outsL n l fs k)[i]? = some (outK l fs k i) := by simp [outsL, List.getElem?_range hi]
    rw [e1, outK_next he hx]
    by_cases h1 : t = i
    · subst h1
      rw [if_pos rfl, if_pos (by rw [hl]; exact ht)]
      by_cases h2 : f = t
      · subst h2
        (simp; try omega)
      · rw [if_neg h2, outsL_at _ _ _ ht, if_neg (by simp; omega), if_pos rfl]
        congr 1
        omega
    · rw [if_neg h1, List.getElem?_set]
      by_cases h2 : f = i
      · subst h2
        rw [if_pos rfl, if_pos (by rw [outsL_len]; exact hf)]
        simp only [if_pos]
        rw [if_neg (by omega)]
        congr 1
        first | done | omega
      · rw [if_neg h2, e2]
        simp only
        rw [if_neg (by omega), if_neg (by omega)]
        congr 1
        omega
  · have e1 : (outsL n l fs (k + 1))[i]? = none := List.getElem?_eq_none (by rw [outsL_len]; omega)
    rw [e1, if_neg (by omega), List.getElem?_eq_none (by rw [List.length_set, outsL_len]; omega)]
theorem outK_bound {l : List Ed} {fs : List Int} {n : Int} (hl : l.length ≤ 65536) (hE : ∀ e ∈ l, okE n e = true) {k : Nat} (hk : k ≤ l.length) (hlen : fs.length = l.length) (hok : ∀ i, i < k → okAt l fs i = true) (v : Int) : -70368744177664 ≤ outK l fs k v ∧ outK l fs k v ≤ 70368744177664 := by
  have hb : Bd (l.take k) (fs.take k) := by
    rw [bd_iff]
    refine ⟨by simp; omega, fun i hi => ?_⟩
    have hik : i < k := by simp at hi; omega
    have h := hok i hik
    have e1 : (l.take k).getD i default = l.getD i default := by simp [List.getD_eq_getElem?_getD, List.getElem?_take, hik]
    have e2 : (fs.take k).getD i 0 = fs.getD i 0 := by simp [List.getD_eq_getElem?_getD, List.getElem?_take, hik]
    rw [e1, e2]
    simpa [okAt] using h
  have h1 := out_le v _ _ hb
  have h2 := (sumM_le (l.take k) (fun e he => hE e (List.mem_of_mem_take he))).2
  have h3 : (l.take k).length ≤ 65536 := by simp; omega
  unfold outK
  omega

set_option maxRecDepth 100000 in
set_option maxHeartbeats 8000000 in
theorem Value_any (n a b : Int) (l : List Ed) (A : Option Addr) (c : Nat) (fs : List Int) (D : Option Addr) (d : Nat) (w : World) (hx : Reads w w.heap.size A 3 Ed.enc l) (hl63 : l.length ≤ 9223372036854775807) (hy : Reads w w.heap.size D 1 intE fs) (hf63 : fs.length ≤ 9223372036854775807) :
    Calls Try.prog 13 #[.int .i64 n, .slice A l.length c, .int .i64 a, .int .i64 b, .slice D fs.length d] w fun e w' => e = .returned (.tuple #[.int .i64 (valueF n a b l fs).1, .int .i64 (valueF n a b l fs).2]) ∧ Below w.heap.size w w' := by
  have HX := Lib.hid hx
  have HY := Lib.hid hy
  clear hx hy
  have HC := Lib.hid (check_any n a b l A c w HX.out hl63)
  cases hok : okX n l a b
  · have hv : valueF n a b l fs = (0, 180) := by unfold valueF; rw [hok]; rfl
    rw [hv]
    rw [hok] at HC
    simp only [if_false, Bool.false_eq_true] at HC
    clear hv hok
    go_enter Try.func13, Try.ntmps13
    go_wp2_with fail
    refine (HC.out).mono ?_
    rintro e w1 ⟨rfl, hb1⟩
    go_wp2_with fail
    go_ret2
    exact ⟨rfl, hb1⟩
  · rw [hok] at HC
    simp only [if_true] at HC
    by_cases hlen : fs.length = l.length
    · have hok2 := hok
      simp only [okX, Bool.and_eq_true] at hok2
      obtain ⟨hn1, hn2, hn3, hn4⟩ := okN_out hok2.1
      obtain ⟨ha0, ha1, hb0, hb1, hab⟩ := okV_out hok2.2
      have hin := okX_inn hok
      obtain ⟨n, rfl⟩ : ∃ m : Nat, n = (m : Int) := ⟨n.toNat, by omega⟩
      obtain ⟨a, rfl⟩ : ∃ m : Nat, a = (m : Int) := ⟨a.toNat, by omega⟩
      obtain ⟨b, rfl⟩ : ∃ m : Nat, b = (m : Int) := ⟨b.toNat, by omega⟩
      simp only [Int.toNat_natCast] at hin
      have hv : valueF n a b l fs = if ((List.range l.length).all (okAt l fs) && consF n l a b fs) then (outE l fs a, 0) else (0, 180) := by
        unfold valueF okFl
        rw [hok, decide_eq_true hlen]
        simp only [Bool.true_and, Int.toNat_natCast]
      obtain ⟨V, hV⟩ : ∃ V, V = valueF n a b l fs := ⟨_, rfl⟩
      rw [← hV] at hv ⊢
      have HV := Lib.hid hv
      have HIN := Lib.hid hin
      have HE := Lib.hid hn4
      have HL := Lib.hid hlen
      have han : a < n := by omega
      have hll := hn3
      have hnn : n ≤ 4096 := by omega
      have q1 : ((fs.length : Int) != (l.length : Int)) = false := by simp; omega
      obtain ⟨i0, hinf, hz0, hz1, hz2⟩ := info_parts Try.infoInt
      have hmk := fun W => run_make (P := Try.prog) W 23 3 i0 (.int .i64 0) Try.underlying23 hinf hz0 .i64 .i64 (n : Int) (n : Int) (by omega) (by omega) (by rw [hz2]; omega) (by omega)
      rw [hz1] at hmk
      simp only [Int.toNat_natCast, Nat.mul_one, made_ints] at hmk
      obtain ⟨zs, hzs⟩ : ∃ zs, zs = ((List.replicate n (0 : Int)).map (Value.int .i64)).toArray := ⟨_, rfl⟩
      rw [← hzs] at hmk
      have HZS := Lib.hid hzs
      clear hok hok2 hn4 hn3 hin hv hV hlen hinf hz0 hz1 hz2 hzs ha0 ha1 hb0 hb1 hab hn1 hn2
      go_enter Try.func13, Try.ntmps13
      go_wp2_with fail
      refine (HC.out).mono ?_
      rintro e w1 ⟨rfl, hb1⟩
      go_upto_region 7 with fail
      obtain ⟨W2, hW2⟩ : ∃ X, X = w1.alloc (.cells zs 3) := ⟨_, rfl⟩
      obtain ⟨O, hO⟩ : ∃ q, q = w1.heap.size := ⟨_, rfl⟩
      have hO2 : Hid (FlAt W2 O (outsL n l fs 0) ∧ Below w.heap.size w W2 ∧ w.heap.size ≤ O) := Lib.hid (by
        refine ⟨?_, by rw [hW2]; exact hb1.alloc hb1.size _, by rw [hO]; exact hb1.size⟩
        have e : outsL n l fs 0 = List.replicate n 0 := by
          apply List.ext_getElem?
          intro i
          simp only [outsL, List.getElem?_map, List.getElem?_replicate]
          by_cases hi : i < n
          · simp [List.getElem?_range hi, hi, outK, outE]
          · simp [hi]
        rw [e]
        unfold FlAt
        rw [hW2, hO, ← HZS.out]
        exact heap_alloc_new w1 _)
      rw [← hO, ← hW2]
      clear hW2 hO hb1 hmk
      go_wp2_with fail
      go_loopw [35] (fun i wr => ∃ k : Nat, k ≤ l.length ∧ i = .int .i64 k ∧ (∀ j, j < k → okAt l fs j = true) ∧ FlAt wr O (outsL n l fs k) ∧ Below w.heap.size w wr) (fun i _ => l.length - (intOf i).toNat)
      case atStart => exact ⟨0, Nat.zero_le _, rfl, fun _ h => absurd h (by omega), hO2.out.1, hO2.out.2.1⟩
      case round =>
        obtain ⟨k, hk, rfl, hno, hfo, hB⟩ := hrel
        by_cases hlt : k < l.length
        · obtain ⟨bb, off, x, rfl, hbl, hxk, hc⟩ := (HX.out.below hB).at_ hlt
          have c0 := hc 0 _ rfl
          have c1 := hc 1 _ rfl
          have c2 := hc 2 _ rfl
          simp only [Nat.add_zero] at c0
          have hx4 := HIN.out x (List.mem_of_getElem? hxk)
          have hgd : l.getD k default = x := getD_some hxk
          obtain ⟨f, t, m⟩ := x
          simp only at hx4 c0 c1 c2
          obtain ⟨f, rfl⟩ : ∃ v : Nat, f = (v : Int) := ⟨f.toNat, by omega⟩
          obtain ⟨t, rfl⟩ : ∃ v : Nat, t = (v : Int) := ⟨t.toNat, by omega⟩
          have hfn : f < n := by omega
          have htn : t < n := by omega
          have hme := (okE_out (HE.out _ (List.mem_of_getElem? hxk))).2.2.2.2.2
          simp only at hme
          obtain ⟨db, doff, x, rfl, hdl, hyk, hdc⟩ := (HY.out.below hB).at_ (k := k) (by rw [HL.out]; exact hlt)
          have d0 := hdc 0 _ rfl
          simp only [Nat.add_zero, Nat.mul_one] at d0
          have hyg : fs.getD k 0 = x := getD_some hyk
          have hb2 : bb < wr.heap.size := by have := hB.size; omega
          have hdl2 : db < wr.heap.size := by have := hB.size; omega
          have hbo := outK_bound hll HE.out hk HL.out hno
          have HO := Lib.hid (And.intro hno (And.intro hfo (And.intro hB (And.intro hxk (And.intro hyk (And.intro hbo (And.intro hgd (And.intro hyg hO2.out.2.2))))))))
          have hlt2 : k < fs.length := by rw [HL.out]; exact hlt
          have hzO := hO2.out.2.2
          have hwz : w.heap.size ≤ wr.heap.size := hB.size
          clear hc hdc hx4 hxk hyk hgd hyg hno hfo hB hbo
          go_upto_region 10 with fail
          obtain ⟨W9, hW9⟩ : ∃ X, X = wr.alloc (.cells #[.int .i64 f, .int .i64 t, .int .i64 m] 39) := ⟨_, rfl⟩
          obtain ⟨xb, hxb⟩ : ∃ q, q = wr.heap.size := ⟨_, rfl⟩
          have b9 : Below wr.heap.size wr W9 := by rw [hW9]; exact (Below.refl _ _).alloc (Nat.le_refl _) _
          have z9 : W9.heap.size = xb + 1 := by rw [hW9, hxb]; simp
          have x0 : W9.cell? ⟨xb, 0, none⟩ = some (.int .i64 f) := by rw [hW9, hxb]; simp [go_sem]
          have x1 : W9.cell? ⟨xb, 1, none⟩ = some (.int .i64 t) := by rw [hW9, hxb]; simp [go_sem]
          have x2 : W9.cell? ⟨xb, 2, none⟩ = some (.int .i64 m) := by rw [hW9, hxb]; simp [go_sem]
          have y0 := (b9.cell (p := ⟨db, doff + k, none⟩) hdl2).trans d0
          have F9 := Lib.hid (HO.out.2.1.step b9)
          have B9 := Lib.hid (HO.out.2.2.1.trans (b9.mono hwz))
          have gx : xb < W9.heap.size := by omega
          have gd : db < W9.heap.size := by omega
          have gO : O < W9.heap.size := F9.out.lt
          have gOx : O < xb := by rw [hxb]; exact HO.out.2.1.lt
          have gdO : db < O := by omega
          rw [← hxb, ← hW9]
          have HZ9 := Lib.hid z9
          clear hW9 hxb b9 c0 c1 c2 d0 hbl hb2 hdl hdl2 z9 hwz
          by_cases h0 : x < 0
          · have HNV : Hid (V = (0, 180)) := Lib.hid (by
              rw [HV.out, if_neg]
              intro hh
              rw [Bool.and_eq_true, List.all_eq_true] at hh
              have := hh.1 k (List.mem_range.2 hlt)
              rw [okAt, HO.out.2.2.2.2.2.2.2.1] at this
              simp at this
              omega)
            have e1 : decide (x < 0) = true := by simpa using h0
            go_quiet (fail)
            go_wp2_with fail
            go_ret2
            exact ⟨by rw [HNV.out]; rfl, below_drewN B9.out _⟩
          · have e1 : decide (x < 0) = false := by simpa using h0
            by_cases h1 : m < x
            · have HNV : Hid (V = (0, 180)) := Lib.hid (by
                rw [HV.out, if_neg]
                intro hh
                rw [Bool.and_eq_true, List.all_eq_true] at hh
                have := hh.1 k (List.mem_range.2 hlt)
                rw [okAt, HO.out.2.2.2.2.2.2.2.1, HO.out.2.2.2.2.2.2.1] at this
                simp at this
                omega)
              have e2 : decide (m < x) = true := by simpa using h1
              go_quiet (fail)
              go_wp2_with fail
              go_ret2
              exact ⟨by rw [HNV.out]; rfl, below_drewN B9.out _⟩
            · have e2 : decide (m < x) = false := by simpa using h1
              have hokk : Hid (okAt l fs k = true) := Lib.hid (by rw [okAt, HO.out.2.2.2.2.2.2.2.1, HO.out.2.2.2.2.2.2.1]; simp; omega)
              obtain ⟨y, hy⟩ : ∃ y, y = outK l fs k (f : Int) := ⟨_, rfl⟩
              have hyb := HO.out.2.2.2.2.2.1 (f : Int)
              rw [← hy] at hyb
              obtain ⟨hyb1, hyb2⟩ := hyb
              have o0 := F9.out.cell (i := f) (by rw [outsL_len]; exact hfn)
              rw [outsL_at l fs k hfn, ← hy] at o0
              have o1 := F9.out.free f
              have hw1 : IntKind.i64.wrap (y + x) = y + x := IntWalk.i64_in _ (by omega)
              have HYE := Lib.hid hy
              clear hy
              go_quiet (fail)
              go_wp2_with fail
              go_region
              go_upto_region 13 with fail
              obtain ⟨W12, hW12⟩ : ∃ X, X = (W9.drewN (nq + 1)).setCell ⟨O, f, none⟩ (.int .i64 (y + x)) := ⟨_, rfl⟩
              have F12 : Hid (FlAt W12 O ((outsL n l fs k).set f (y + x))) := Lib.hid (by rw [hW12]; exact FlAt.set (w := W9.drewN (nq + 1)) F9.out f (y + x))
              have B12 : Hid (Below w.heap.size w W12) := Lib.hid (by rw [hW12]; exact (below_drewN B9.out _).setCell (by show w.heap.size ≤ O; exact HO.out.2.2.2.2.2.2.2.2) _)
              have v1 : W12.cell? ⟨xb, 1, none⟩ = some (.int .i64 t) := by rw [hW12]; exact (set_far _ _ _ _ (addr_ne (by omega))).trans x1
              have v2 : W12.cell? ⟨db, doff + k, none⟩ = some (.int .i64 x) := by rw [hW12]; exact (set_far _ _ _ _ (addr_ne (by omega))).trans y0
              have u1 : xb < W12.heap.size := by rw [hW12]; simpa using gx
              have u2 : db < W12.heap.size := by rw [hW12]; simpa using gd
              have u3 : O < W12.heap.size := F12.out.lt
              rw [← hW12]
              obtain ⟨y2, hy2⟩ : ∃ y2, y2 = ((outsL n l fs k).set f (y + x)).getD t 0 := ⟨_, rfl⟩
              have p0 := F12.out.cell (i := t) (by rw [List.length_set, outsL_len]; exact htn)
              rw [← hy2] at p0
              have p1 := F12.out.free t
              have hyb3 : -70368744177664 ≤ y2 ∧ y2 ≤ 70369818000000 := by
                rw [hy2, getD_set _ _ _ _ (by rw [outsL_len]; exact hfn)]
                split
                · omega
                · rw [outsL_at l fs k htn]
                  have := HO.out.2.2.2.2.2.1 (t : Int)
                  omega
              obtain ⟨hyb3, hyb4⟩ := hyb3
              have hw2 : IntKind.i64.wrap (y2 - x) = y2 - x := IntWalk.i64_in _ (by omega)
              have HY2 := Lib.hid hy2
              clear hW12 hy2 o0 o1 x0 x1 x2 y0 gx gd gO hw1 hyb1 hyb2
              go_region
              go_wp2_with fail
              go_roundw
              case rel =>
                refine ⟨k + 1, by omega, by go_num, fun j hj => ?_, ?_, (below_drewN B12.out _).setCell (by show w.heap.size ≤ O; exact HO.out.2.2.2.2.2.2.2.2) _⟩
                · rcases Nat.lt_or_ge j k with h | h
                  · exact HO.out.1 j h
                  · obtain rfl : j = k := by omega
                    exact hokk.out
                · have h := FlAt.set (w := W12.drewN 1) F12.out t (y2 - x)
                  rw [HY2.out, HYE.out, outsL_next HO.out.2.2.2.1 HO.out.2.2.2.2.1 hfn htn] at h
                  rw [HY2.out, HYE.out]
                  exact h
              case measure => simp [intOf]; omega
        · obtain rfl : k = l.length := by omega
          have HF := Lib.hid hfo
          have HNO := Lib.hid hno
          have HB := Lib.hid hB
          clear hfo hno hB
          go_wp2_with fail
          go_loopw [79] (fun i wx => Below w.heap.size w wx ∧ FlAt wx O (outsL n l fs l.length) ∧ ∃ v : Nat, v ≤ n ∧ i = .int .i64 v ∧ ∀ u, u < v → restV l fs a b u = true) (fun i _ => n - (intOf i).toNat)
          case atStart => exact ⟨HB.out, HF.out, 0, Nat.zero_le _, rfl, fun _ h => absurd h (by omega)⟩
          case round =>
            obtain ⟨hB, hF, v, hv, rfl, hvo⟩ := hrel
            have HB2 := Lib.hid hB
            have HF2 := Lib.hid hF
            have HVO := Lib.hid hvo
            have hallv : Hid ((List.range l.length).all (okAt l fs) = true) := Lib.hid (by
              rw [List.all_eq_true]
              intro j hj
              exact HNO.out j (List.mem_range.1 hj))
            by_cases hlt : v < n
            · have c0 := hF.cell (i := v) (by rw [outsL_len]; exact hlt)
              rw [outsL_at l fs _ hlt, outK_all HL.out] at c0
              obtain ⟨s, hs⟩ : ∃ s, s = outE l fs v := ⟨_, rfl⟩
              rw [← hs] at c0
              have HS := Lib.hid hs
              have zO := hF.lt
              clear hs hB hF hvo
              have next : ∀ (hr : restV l fs a b v = true), ∀ u, u < v + 1 → restV l fs a b u = true := fun hr u hu => by
                rcases Nat.lt_or_ge u v with h | h
                · exact HVO.out u h
                · obtain rfl : u = v := by omega
                  exact hr
              have NX := Lib.hid next
              clear next
              by_cases e1 : v = a
              · have g1 : ((v : Int) != (a : Int)) = false := by simp [e1]
                have HR : Hid (restV l fs a b v = true) := Lib.hid (by simp [restV, e1])
                clear e1
                go_wp2_with fail
                go_roundw
                case rel => exact ⟨HB2.out, HF2.out, v + 1, by omega, by go_num, NX.out HR.out⟩
                case measure => simp [intOf]; omega
              · have g1 : ((v : Int) != (a : Int)) = true := by simp; omega
                by_cases e2 : v = b
                · have g2 : ((v : Int) != (b : Int)) = false := by simp [e2]
                  have HR : Hid (restV l fs a b v = true) := Lib.hid (by simp [restV, e2])
                  clear e1 e2
                  go_wp2_with fail
                  go_roundw
                  case rel => exact ⟨HB2.out, HF2.out, v + 1, by omega, by go_num, NX.out HR.out⟩
                  case measure => simp [intOf]; omega
                · have g2 : ((v : Int) != (b : Int)) = true := by simp; omega
                  by_cases e3 : s = 0
                  · have g3 : (s != 0) = false := by simp [e3]
                    have HR : Hid (restV l fs a b v = true) := Lib.hid (by
                      have := HS.out
                      simp only [restV, ← this, e3]
                      simp)
                    clear e1 e2 e3
                    go_wp2_with fail
                    go_roundw
                    case rel => exact ⟨HB2.out, HF2.out, v + 1, by omega, by go_num, NX.out HR.out⟩
                    case measure => simp [intOf]; omega
                  · have g3 : (s != 0) = true := by simpa using e3
                    have HNV : Hid (V = (0, 180)) := Lib.hid (by
                      rw [HV.out, if_neg]
                      intro hh
                      rw [Bool.and_eq_true] at hh
                      have h2 := hh.2
                      unfold consF at h2
                      rw [List.all_eq_true] at h2
                      have h3 := h2 v (List.mem_range.2 hlt)
                      have h4 := HS.out
                      simp only [restV, ← h4] at h3
                      simp at h3
                      omega)
                    clear e1 e2 e3
                    go_wp2_with fail
                    go_ret2
                    exact ⟨by rw [HNV.out]; rfl, HB2.out⟩
            · obtain rfl : v = n := by omega
              have c0 := hF.cell (i := a) (by rw [outsL_len]; exact han)
              rw [outsL_at l fs _ han, outK_all HL.out] at c0
              have zO := hF.lt
              have HNV : Hid (V = (outE l fs a, 0)) := Lib.hid (by
                rw [HV.out, if_pos]
                rw [hallv.out, Bool.true_and, consF, List.all_eq_true]
                intro u hu
                exact HVO.out u (List.mem_range.1 hu))
              obtain ⟨s, hs⟩ : ∃ s, s = outE l fs a := ⟨_, rfl⟩
              rw [← hs] at c0 HNV
              clear hB hF hvo hs
              go_wp2_with fail
              go_ret2
              exact ⟨by rw [HNV.out]; rfl, HB2.out⟩
    · have hv : valueF n a b l fs = (0, 180) := by
        unfold valueF okFl
        rw [decide_eq_false hlen]
        simp
      have q1 : ((fs.length : Int) != (l.length : Int)) = true := by simp; omega
      rw [hv]
      clear hv hok hlen
      go_enter Try.func13, Try.ntmps13
      go_wp2_with fail
      refine (HC.out).mono ?_
      rintro e w1 ⟨rfl, hb1⟩
      go_wp2_with fail
      go_ret2
      exact ⟨rfl, hb1⟩
end Go.Proofs.Ytjpnbpfbdkbknaa
