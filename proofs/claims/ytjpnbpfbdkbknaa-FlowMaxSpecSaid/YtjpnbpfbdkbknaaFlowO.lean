/- The reference's augment and Max. -/
import Derived.Test.YtjpnbpfbdkbknaaFlowM
namespace Go.Proofs.Ytjpnbpfbdkbknaa
open Go.RowKit Go.Shelf
set_option linter.unusedSimpArgs false
set_option linter.unusedVariables false

theorem Owns.setI {w : World} {base : Nat} {A : Option Addr} {c n : Nat} {ys : List Int} (h : Owns w base 3 1 intE (.slice A n c) ys) {k : Nat} {e : Int} (hk : ys[k]? = some e) (m : Int) :
    ∃ g, A = some ⟨g, 0, none⟩ ∧ base ≤ g ∧ g < w.heap.size ∧ w.cell? ⟨g, k, none⟩ = some (.int .i64 e) ∧ w.frozen? ⟨g, k, none⟩ = false ∧ Owns (w.setCell ⟨g, k, none⟩ (.int .i64 m)) base 3 1 intE (.slice A n c) (ys.set k m) := by
  have hkl := (List.getElem?_eq_some_iff.1 hk).1
  have hfl : ∀ zs : List Int, zs.flatMap intE = zs.map (Value.int .i64) := fun zs => by induction zs <;> simp_all [intE]
  rcases h.2 with ⟨_, h2⟩ | ⟨g, cap, cur, hv, h2, h3, h4, h5, h6, h7⟩
  · omega
  · simp only [Value.slice.injEq] at hv
    obtain ⟨rfl, rfl, rfl⟩ := hv
    have hc := World.ownsRow.cellAt h k (by omega)
    rw [hfl] at hc
    refine ⟨g, rfl, h2, (Array.getElem?_eq_some_iff.1 h3).1, by rw [hc]; simp [hk], by simp [World.frozen?, h3], ⟨by rw [hfl]; simp, .inr ⟨g, c, cur.setIfInBounds k (.int .i64 m), by simp, h2, heap_setCell_same w g _ _ _ _ h3, by simpa using h4, h5, by simpa using h6, ?_⟩⟩⟩
    rw [hfl, List.map_set, ← hfl, ← h7]
    simp [List.take_set]

set_option maxRecDepth 100000 in
set_option maxHeartbeats 8000000 in
theorem augment_any (n : Nat) (l : List Ed) (A : Option Addr) (c : Nat) (xs : List Int) (D : Option Addr) (d : Nat) (bys : List Int) (E : Option Addr) (f : Nat) (a b : Nat) (rs : List Nat) (w : World) (hx : Reads w w.heap.size A 3 Ed.enc l) (hy : Reads w w.heap.size D 1 intE xs) (hz : Reads w w.heap.size E 1 intE bys) (hnil : D = none → d = 0)
    (hb : Bd l xs) (hm : ∀ e ∈ l, okE n e = true) (hll : l.length ≤ 65536) (hn : n ≤ 4096) (hbn : b < n) (hbl : bys.length = n) (hway : WayP l (fun v => decR (bys.getD v.toNat 0)) a b rs) (hen : ∀ r ∈ rs, bys.getD (endR l r).toNat 0 = encR r) (hnd : rs.Nodup) (hcap : ∀ r ∈ rs, 0 < capR l xs r) :
    Calls Try.prog 38 #[.slice A l.length c, .slice D xs.length d, .slice E bys.length f, .int .i64 a, .int .i64 b] w fun e w' => (∃ Ax cx, e = .returned (.slice Ax xs.length cx) ∧ (Ax = none → cx = 0) ∧ Reads w' w'.heap.size Ax 1 intE (pushAll xs (leastR l xs 1073741824 rs) rs)) ∧ Below w.heap.size w w' := by
  have HX := Lib.hid hx
  have HY := Lib.hid hy
  have HZ := Lib.hid hz
  have HB := Lib.hid hb
  have HE := Lib.hid hm
  obtain ⟨hxl, hbd⟩ := (bd_iff l xs).1 hb
  have HXL := Lib.hid (And.intro hxl hbd)
  have HBL := Lib.hid hbl
  have HW := Lib.hid hway
  have HEN := Lib.hid hen
  have HND := Lib.hid hnd
  have HCP := Lib.hid hcap
  have HNIL := Lib.hid hnil
  have hl63 : l.length ≤ 9223372036854775807 := by omega
  obtain ⟨i0, hinf2, hy0, hy1, hy2⟩ := info_parts Try.infoInt
  have HI := Lib.hid hinf2
  clear hx hy hz hb hm hxl hbd hbl hway hen hnd hcap hinf2 hnil
  -- what a step of either loop reads
  have step : ∀ (W : World) (u : Nat) (r : Nat) (post : List Nat), Below w.heap.size w W → u < n → r ∈ rs → WayP l (fun v => decR (bys.getD v.toNat 0)) a u (r :: post) →
      ∃ (i fn tn : Nat) (m z : Int) (bb off db doff eb eoff : Nat), i < l.length ∧ l[i]? = some ⟨(fn : Int), (tn : Int), m⟩ ∧ xs[i]? = some z ∧ A = some ⟨bb, off, none⟩ ∧ D = some ⟨db, doff, none⟩ ∧ E = some ⟨eb, eoff, none⟩ ∧ bb < w.heap.size ∧ db < w.heap.size ∧ eb < w.heap.size ∧
        W.cell? ⟨bb, off + i * 3, none⟩ = some (.int .i64 fn) ∧ W.cell? ⟨bb, off + i * 3 + 1, none⟩ = some (.int .i64 tn) ∧ W.cell? ⟨bb, off + i * 3 + 2, none⟩ = some (.int .i64 m) ∧ W.cell? ⟨db, doff + i, none⟩ = some (.int .i64 z) ∧ W.cell? ⟨eb, eoff + u, none⟩ = some (.int .i64 (encR r)) ∧
        i = r / 2 ∧ fn < n ∧ tn < n ∧ 0 ≤ z ∧ z ≤ m ∧ m ≤ 1073741824 ∧ (u ≠ a) ∧ capR l xs r = (if r % 2 = 0 then m - z else z) ∧ startR l r = (if r % 2 = 0 then (fn : Int) else (tn : Int)) ∧ WayP l (fun v => decR (bys.getD v.toNat 0)) a (if r % 2 = 0 then (fn : Int) else (tn : Int)) post := by
    intro W u r post hW hun hr hw
    obtain ⟨w1, w2, w3, w4, w5⟩ := hw
    have hi : r / 2 < l.length := by omega
    obtain ⟨bb, off, e, hA, hb1, hek, hc⟩ := (HX.out.below hW).at_ hi
    obtain ⟨db, doff, z, hD, hd1, hzk, hdc⟩ := (HY.out.below hW).at_ (k := r / 2) (by rw [HXL.out.1]; exact hi)
    obtain ⟨eb, eoff, y, hE', he1, hyk, hec⟩ := (HZ.out.below hW).at_ (k := u) (by rw [HBL.out]; exact hun)
    have hee := okE_out (HE.out e (List.mem_of_getElem? hek))
    have hgd : l.getD (r / 2) default = e := getD_some hek
    have hzg : xs.getD (r / 2) 0 = z := getD_some hzk
    have hyg : bys.getD u 0 = y := getD_some hyk
    have hby := HEN.out r hr
    rw [w4, Int.toNat_natCast, hyg] at hby
    have hzb := HXL.out.2 (r / 2) hi
    rw [hgd, hzg] at hzb
    obtain ⟨fv, tv, m⟩ := e
    simp only at hee hzb
    have c0 := hc 0 _ rfl
    have c1 := hc 1 _ rfl
    have c2 := hc 2 _ rfl
    have d0 := hdc 0 _ rfl
    have e0 := hec 0 _ rfl
    simp only [Nat.add_zero, Nat.mul_one] at c0 d0 e0
    obtain ⟨fn, rfl⟩ : ∃ k : Nat, fv = (k : Int) := ⟨fv.toNat, by omega⟩
    obtain ⟨tn, rfl⟩ : ∃ k : Nat, tv = (k : Int) := ⟨tv.toNat, by omega⟩
    have hs : startR l r = (if r % 2 = 0 then (fn : Int) else (tn : Int)) := by unfold startR; rw [hgd]
    refine ⟨r / 2, fn, tn, m, z, bb, off, db, doff, eb, eoff, hi, hek, hzk, hA, hD, hE', hb1, hd1, he1, c0, c1, c2, d0, by rw [e0, hby], rfl, by omega, by omega, hzb.1, hzb.2, by omega, fun e => w1 (by rw [e]), by unfold capR; rw [hgd, hzg], hs, by rw [← hs]; exact w5⟩
  have STEP := Lib.hid step
  clear step
  go_enter Try.func38, Try.ntmps38
  go_wp2_with fail
  go_loopg [11, 12] rs.length (fun k lv v wr => ∃ (pre post : List Nat) (u : Nat), k = post.length ∧ rs = pre ++ post ∧ v = .int .i64 u ∧ u < n ∧ WayP l (fun v => decR (bys.getD v.toNat 0)) a u post ∧ lv = .int .i64 (leastR l xs 1073741824 pre) ∧ Below w.heap.size w wr)
  case atStart => exact ⟨[], rs, b, rfl, rfl, rfl, hbn, HW.out, rfl, Below.refl _ _⟩
  case round =>
    obtain ⟨pre, post, u, rfl, hrs, rfl, hun, hw, rfl, hB⟩ := hrel
    have HRS := Lib.hid hrs
    have HBB := Lib.hid hB
    have hlb := leastR_le l xs pre 1073741824
    have hlp := leastR_pos l xs pre 1073741824 (by decide) (fun r hr => HCP.out r (by rw [hrs]; simp [hr]))
    obtain ⟨L, hL⟩ : ∃ L, L = leastR l xs 1073741824 pre := ⟨_, rfl⟩
    rw [← hL] at hlb hlp ⊢
    have HL := Lib.hid hL
    have hL1 := hlb.1
    cases post with
    | cons r post =>
      obtain ⟨i, fn, tn, m, z, bb, off, db, doff, eb, eoff, hi, hek, hzk, rfl, rfl, rfl, q1, q2, q3, c0, c1, c2, d0, e0, hir, hfn, htn, hz0, hz1, hm1, hua, hcr, hsr, hwn⟩ := STEP.out wr u r post hB hun (by rw [hrs]; simp) hw
      have hne : ((u : Int) != (a : Int)) = true := by simp; omega
      have hsz := hB.size
      have z1 : bb < wr.heap.size := by omega
      have z2 : db < wr.heap.size := by omega
      have z3 : eb < wr.heap.size := by omega
      have hix : i < xs.length := by rw [HXL.out.1]; exact hi
      have hub : u < bys.length := by rw [HBL.out]; exact hun
      have HCR := Lib.hid hcr
      have HWN := Lib.hid hwn
      have HEI := Lib.hid hir
      have hLS := leastR_snoc l xs 1073741824 pre r
      rw [← hL] at hLS
      have HLS := Lib.hid hLS
      clear hek hzk hw hrs hL hlb hsr hB hLS hua q1 q2 q3 hsz
      rcases Nat.mod_two_eq_zero_or_one r with hp | hp
      · have henc : encR r = (i : Int) + 1 := by unfold encR; rw [if_pos hp, hir]
        rw [henc] at e0
        have HP := Lib.hid hp
        rw [if_pos hp] at hwn hcr
        have HW2 := Lib.hid hwn
        have HC2 := Lib.hid hcr
        clear henc hp hir hcr hwn
        go_wp2_with fail
        go_region
        go_wp2_with fail
        all_goals
          go_roundg post.length
          case measure => simp
          case rel => exact ⟨pre ++ [r], post, fn, rfl, by rw [HRS.out]; simp, rfl, hfn, HW2.out, by rw [HLS.out, HC2.out]; congr 1; omega, HBB.out.drew⟩
      · have h1 : ¬ r % 2 = 0 := by omega
        have henc : encR r = -((i : Int) + 1) := by unfold encR; rw [if_neg h1, hir]
        rw [henc] at e0
        rw [if_neg h1] at hwn hcr
        have HW2 := Lib.hid hwn
        have HC2 := Lib.hid hcr
        clear henc hp hir h1 hcr hwn
        go_wp2_with fail
        all_goals
          go_roundg post.length
          case measure => simp
          case rel => exact ⟨pre ++ [r], post, tn, rfl, by rw [HRS.out]; simp, rfl, htn, HW2.out, by rw [HLS.out, HC2.out]; congr 1; omega, HBB.out⟩
    | nil =>
      obtain rfl : u = a := by have : (u : Int) = a := hw; omega
      have hpr : pre = rs := by rw [hrs, List.append_nil]
      rw [hpr] at hL
      have HL2 := Lib.hid hL
      have OE : Owns (wr.alloc (.cells #[] 3)) wr.heap.size 3 1 intE (.slice (some ⟨wr.heap.size, 0, none⟩) 0 0) [] := Owns.lit (ys := ([] : List Int)) intE_len' rfl (Nat.le_refl _) (by simp)
      have be : Below wr.heap.size wr (wr.alloc (.cells #[] 3)) := (Below.refl _ _).alloc (Nat.le_refl _) _
      have HR1 := Lib.hid ((HY.out.below hB).below (be.mono hB.size))
      have HOE := Lib.hid OE
      have HBE := Lib.hid be
      have hxl4 : xs.length ≤ 65536 := by rw [HXL.out.1]; exact hll
      clear OE be hw hrs hpr hL hlb hB
      go_wp2_with (at_builtin; refine stop_mk ?_)
      refine stop_out (wpList_append_reads (en := intE) (sz := 1) _ rfl _ _ _ rfl intE_len' intE_one wr.heap.size 3 i0 _ 8 Try.underlying23 HI.out hy0 hy1 hy2 rfl (by decide) (.slice (some ⟨wr.heap.size, 0, none⟩) 0 0) [] rfl HOE.out
        w.heap.size D d xs rfl HR1.out (fun h => HNIL.out h) (by simp [maxLen]; omega) (by simp; omega) (by simp) ?_)
      intro v3 w3 k1 k2 k3 _
      rw [List.nil_append] at k1
      obtain ⟨A3, c3, rfl, hnv, hmv⟩ := k1.shape
      have hb3 : Below wr.heap.size wr w3 := HBE.out.grown k2 (by simp) (fun q e => HOE.out.base_le q e)
      have HO3 : Hid (Owns w3 wr.heap.size 3 1 intE (.slice A3 xs.length c3) (pushAll xs L [])) := Lib.hid k1
      have HB3 := Lib.hid (HBB.out.trans (hb3.mono HBB.out.size))
      have HNV := Lib.hid hnv
      obtain ⟨S, hS⟩ : ∃ S, S = wr.heap.size := ⟨_, rfl⟩
      have hSw : w.heap.size ≤ S := by rw [hS]; exact HBB.out.size
      rw [← hS] at HO3
      clear k1 k2 k3 hb3 hnv hS
      go_wp2_with fail
      go_loopg [16] rs.length (fun k v wr => ∃ (pre post : List Nat) (x : Nat), k = post.length ∧ rs = pre ++ post ∧ v = .int .i64 x ∧ x < n ∧ WayP l (fun v => decR (bys.getD v.toNat 0)) u x post ∧ Owns wr S 3 1 intE (.slice A3 xs.length c3) (pushAll xs L pre) ∧ Below w.heap.size w wr)
      case atStart => exact ⟨[], rs, b, rfl, rfl, rfl, hbn, HW.out, HO3.out, HB3.out⟩
      case round =>
        obtain ⟨pre, post, x, rfl, hrs, rfl, hxn, hw, ho, hB⟩ := hrel
        have HRS := Lib.hid hrs
        have HBB2 := Lib.hid hB
        cases post with
        | cons r post =>
          obtain ⟨i, fn, tn, m, z, bb, off, db, doff, eb, eoff, hi, hek, hzk, rfl, rfl, rfl, q1, q2, q3, c0, c1, c2, d0, e0, hir, hfn, htn, hz0, hz1, hm1, hua, hcr, hsr, hwn⟩ := STEP.out wr x r post hB hxn (by rw [hrs]; simp) hw
          have hbd2 : Bd l (pushAll xs L pre) := push_bd (by omega) HB.out (fun r' hr' => ⟨way_mem _ _ HW.out.way r' (by rw [hrs]; simp [hr']), by rw [HL2.out]; exact (leastR_le l xs rs 1073741824).2 r' (by rw [hrs]; simp [hr'])⟩) (by have := HND.out; rw [hrs] at this; exact (List.nodup_append.1 this).1)
          obtain ⟨p1, p2⟩ := (bd_iff _ _).1 hbd2
          have p3 := p2 i hi
          have hmi : (l.getD i default).m = m := by rw [getD_some hek]
          rw [hmi] at p3
          have hpk : (pushAll xs L pre)[i]? = some ((pushAll xs L pre).getD i 0) := by
            rw [List.getElem?_eq_getElem (by omega), List.getD_eq_getElem?_getD, List.getElem?_eq_getElem (by omega)]
            rfl
          obtain ⟨g, rfl, hg1, hg2, hg3, hg4, hg5⟩ := ho.setI hpk ((pushR (pushAll xs L pre) L r).getD i 0)
          have hrow : (pushAll xs L pre).set i ((pushR (pushAll xs L pre) L r).getD i 0) = pushAll xs L (pre ++ [r]) := by rw [pushAll_snoc, hir]; exact push_row _ _ _ (by rw [p1, ← hir]; exact hi)
          rw [hrow] at hg5
          have hval : (pushR (pushAll xs L pre) L r).getD i 0 = (pushAll xs L pre).getD i 0 + if r % 2 = 0 then L else -L := by unfold pushR; rw [← hir, getD_set _ _ _ _ (by omega), if_pos rfl]
          rw [hval] at hg5
          obtain ⟨o, ho'⟩ : ∃ o, o = (pushAll xs L pre).getD i 0 := ⟨_, rfl⟩
          rw [← ho'] at hg3 hg5 p3
          obtain ⟨p3, p4⟩ := p3
          have hne : ((x : Int) != (u : Int)) = true := by simp; omega
          have hsz := hB.size
          have z1 : bb < wr.heap.size := by omega
          have z2 : db < wr.heap.size := by omega
          have z3 : eb < wr.heap.size := by omega
          have y1 : bb < g := by omega
          have y2 : eb < g := by omega
          have hix : i < xs.length := by rw [HXL.out.1]; exact hi
          have hub : x < bys.length := by rw [HBL.out]; exact hxn
          clear hek hzk hw hrs hsr hB hua q1 q2 q3 hsz ho hbd2 p1 p2 hmi hpk hrow hval ho' hcr
          rcases Nat.mod_two_eq_zero_or_one r with hp | hp
          · have henc : encR r = (i : Int) + 1 := by unfold encR; rw [if_pos hp, hir]
            rw [henc] at e0
            rw [if_pos hp] at hwn hg5
            have HW2 := Lib.hid hwn
            have HG := Lib.hid hg5
            clear henc hp hir hwn hg5
            go_wp2_with fail
            go_roundg post.length
            case measure => simp
            case rel => exact ⟨pre ++ [r], post, fn, rfl, by rw [HRS.out]; simp, rfl, hfn, HW2.out, HG.out, HBB2.out.setCell (by show w.heap.size ≤ g; omega) _⟩
          · have h1 : ¬ r % 2 = 0 := by omega
            have henc : encR r = -((i : Int) + 1) := by unfold encR; rw [if_neg h1, hir]
            rw [henc] at e0
            rw [if_neg h1, ← Int.sub_eq_add_neg] at hg5
            rw [if_neg h1] at hwn
            have HW2 := Lib.hid hwn
            have HG := Lib.hid hg5
            clear henc hp hir h1 hwn hg5
            go_wp2_with fail
            go_roundg post.length
            case measure => simp
            case rel => exact ⟨pre ++ [r], post, tn, rfl, by rw [HRS.out]; simp, rfl, htn, HW2.out, HG.out, HBB2.out.setCell (by show w.heap.size ≤ g; omega) _⟩
        | nil =>
          obtain rfl : x = u := by have : (x : Int) = u := hw; omega
          have hpr : pre = rs := by rw [hrs, List.append_nil]
          rw [hpr, HL2.out] at ho
          have HRR := Lib.hid (ho.reads intE_len')
          clear hw hrs hpr ho hB
          go_wp2_with fail
          go_ret
          exact ⟨⟨A3, c3, rfl, HNV.out, HRR.out⟩, HBB2.out⟩
end Go.Proofs.Ytjpnbpfbdkbknaa
