/- TopDegree, what its proof leans on: the texts FlowH, FlowI. -/
import Derived.Test.YtalmbigebjbaoaaGreatDoorM16
import Derived.Laws.Bits64
import Derived.Deep.RegionWith
namespace Go.Proofs.YtalmbigebjbaoaaGreatDoor.Fl
open Go.RowKit Go.Shelf
set_option linter.unusedSimpArgs false
set_option linter.unusedVariables false
theorem xor_one (r : Nat) : r ^^^ 1 = if r % 2 = 0 then r + 1 else r - 1 := by
 have h1 : (r ^^^ 1) / 2 = r / 2 := by rw [Nat.xor_div_two]; simp
 have h2 : (r ^^^ 1) % 2 = (r % 2) ^^^ (1 % 2) := Nat.xor_mod_two_pow (n := 1)
 rcases Nat.mod_two_eq_zero_or_one r with h | h
 ·rw [if_pos h]
  rw [h, show (0 ^^^ (1 % 2) : Nat) = 1 by decide] at h2
  omega
 ·rw [if_neg (by omega)]
  rw [h, show (1 ^^^ (1 % 2) : Nat) = 0 by decide] at h2
  omega
theorem xor_i64 (r : Nat) (hr : r < 9223372036854775807) : bits BinOp.xor IntKind.i64 (r : Int) 1 = ((r ^^^ 1 : Nat) : Int) := by
 have hx : r ^^^ 1 < 2 ^ 63 := Nat.xor_lt_two_pow (by omega) (by omega)
 have h1 : (BitVec.ofInt 64 (r : Int)).toNat = r := by
  rw [BitVec.ofInt_natCast, BitVec.toNat_ofNat]; exact Nat.mod_eq_of_lt (by omega)
 have h2 : (BitVec.ofInt 64 ((1 : Nat) : Int)).toNat = 1 := by
  rw [BitVec.ofInt_natCast, BitVec.toNat_ofNat]
 show IntKind.i64.wrap ((BitVec.ofInt 64 (r : Int) ^^^ BitVec.ofInt 64 ((1 : Nat) : Int)).toNat : Int) = _
 rw [BitVec.toNat_xor, h1, h2, IntKind.wrap_i64]
 omega
theorem end_xor (l : List Ed) (r : Nat) : endR l (r ^^^ 1) = startR l r := by
 rw [xor_one]
 unfold endR startR
 rcases Nat.mod_two_eq_zero_or_one r with h | h
 ·rw [if_pos h, if_pos h, if_neg (by omega), show (r + 1) / 2 = r / 2 by omega]
 ·have h0 : ¬ r % 2 = 0 := by omega
  rw [if_neg h0, if_neg h0, if_pos (by omega), show (r - 1) / 2 = r / 2 by omega]
theorem xor_lt {r m : Nat} (h : r < 2 * m) : r ^^^ 1 < 2 * m := by
 rw [xor_one]
 split <;> omega
def AlM (W : World) (P : Nat → Prop) (bt bf bw bb B F Y n : Nat) (a b : Nat) (l : List Ed) (adj : List (List Nat)) (bys : List Int) : Prop :=
 One W bt (.int .i64 b) 3 ∧ One W bf (.int .i64 a) 3 ∧ One W bw (.pointer (some ⟨B, 0, none⟩)) 168 ∧ One W bb (.slice (some ⟨Y, 0, none⟩) n n) 64 ∧ FlAt W Y bys ∧ Net W P B F n l adj
set_option maxHeartbeats 4000000 in
theorem along_any {P : Nat → Prop} {bt bf bw bb B F Y n a b : Nat} {l : List Ed} {adj : List (List Nat)} {bys : List Int} (rs : List Nat) (g : Nat) (fr : Array Value) (I : List Nat → World → Prop) (w : World)
 (hlen : bys.length = n) (hn : n ≤ 4096) (hll : l.length ≤ 65536) (hin : InN n l) (hbn : b < n)
 (hway : WayP l (fun v => (bys.getD v.toNat 0).toNat) a b rs) (hreach : ∀ r ∈ rs, 0 ≤ bys.getD (endR l r).toNat 0)
 (he : ∀ (args : Array Value) (W : World), Sem.run Tryz.prog (callFunc g args) W = .ok (.enter g args) W)
 (hI : ∀ pre W, I pre W → AlM W P bt bf bw bb B F Y n a b l adj bys)
 (hst : ∀ pre W W', I pre W → Below W.heap.size W W' → I pre W')
 (hdo : ∀ pre r post W, I pre W → rs = pre ++ r :: post → Calls Tryz.prog g (#[.int .i64 r] ++ fr) W fun e W' => e = .returned (.tuple #[]) ∧ I (pre ++ [r]) W')
 (h0 : I [] w) :
 Calls Tryz.prog 84 #[.func (.func g) #[] fr, .pointer (some ⟨bt, 0, none⟩), .pointer (some ⟨bf, 0, none⟩), .pointer (some ⟨bw, 0, none⟩), .pointer (some ⟨bb, 0, none⟩)] w fun e w' => e = .returned (.tuple #[]) ∧ I rs w' := by
 have HI := Lib.hid hI
 have HST := Lib.hid hst
 have HDO := Lib.hid hdo
 have H0 := Lib.hid h0
 have HW := Lib.hid hway
 have HR := Lib.hid hreach
 have HIN := Lib.hid hin
 have c0 := (hI _ _ h0).1.cell
 have HL := Lib.hid hlen
 clear hI hst hdo h0 hway hreach hin hlen
 go_enter Tryz.func84, Tryz.ntmps84
 go_wp2_with fail
 clear c0
 go_loopg [6] rs.length (fun k v wr => ∃ (pre post : List Nat) (u : Nat), k = post.length ∧ rs = pre ++ post ∧ v = .int .i64 u ∧ u < n ∧ WayP l (fun v => (bys.getD v.toNat 0).toNat) a u post ∧ I pre wr)
 case atStart => exact ⟨[], rs, b, rfl, rfl, rfl, hbn, HW.out, H0.out⟩
 case round =>
  obtain ⟨pre, post, u, rfl, hrs, rfl, hun, hw, hi⟩ := hrel
  obtain ⟨m1, m2, m3, m4, m5, m6⟩ := HI.out _ _ hi
  have c2 := m2.cell
  have c3 := m3.cell
  have c4 := m4.cell
  have c5 := m5.cell (i := u) (by rw [HL.out]; exact hun)
  have z2 := m2.lt
  have z5 := m5.lt
  have HRS := Lib.hid hrs
  have HI1 := Lib.hid hi
  have HN1 := Lib.hid m6
  cases post with
  | nil =>
    obtain rfl : u = a := by have : (u : Int) = a := hw; omega
    clear hrs hi m1 m2 m3 m4 m5 m6 hw
    go_wp2_with fail
    go_end0
    exact ⟨rfl, by have := HRS.out; rw [List.append_nil] at this; rw [this]; exact HI1.out⟩
  | cons r post =>
    have hz := HR.out r (by rw [hrs]; simp)
    obtain ⟨w1, w2, w3, w4, w5⟩ := hw
    rw [w4] at hz
    have hne : ((u : Int) != (a : Int)) = true := by simpa using w1
    have hr : bys.getD u 0 = (r : Int) := by
     have : (bys.getD (u : Int).toNat 0).toNat = r := w2
     simp only [Int.toNat_natCast] at this hz
     omega
    rw [hr] at c5
    have HRE := Lib.hid hr
    have hs : 0 ≤ startR l r ∧ startR l r < n := by
     have hl : r / 2 < l.length := by omega
     have := HIN.out (l.getD (r / 2) default) (by simp [List.getD_eq_getElem?_getD, List.getElem?_eq_getElem hl])
     unfold startR
     split <;> omega
    obtain ⟨u', hu'⟩ : ∃ u' : Nat, startR l r = (u' : Int) := ⟨(startR l r).toNat, by omega⟩
    have HU := Lib.hid (And.intro hu' (And.intro w3 (And.intro w5 hs)))
    clear hrs hi m1 m2 m3 m4 m5 m6 w1 w2 w4 w5 hz hr hu' hs
    have hx := xor_i64 r (by omega)
    have hx2 : r ^^^ 1 < 200000 := by have := xor_lt w3; omega
    go_wp2_with fail
    refine (HDO.out pre r post _ HI1.out HRS.out).mono ?_
    rintro e w6 ⟨rfl, hi6⟩
    obtain ⟨m1, m2, m3, m4, m5, m6⟩ := HI.out _ _ hi6
    have d3 := m3.cell
    have d4 := m4.cell
    have d5 := m5.cell (i := u) (by rw [HL.out]; exact hun)
    rw [HRE.out] at d5
    have y3 := m3.lt
    have y4 := m4.lt
    have y5 := m5.lt
    have HI6 := Lib.hid hi6
    have HN6 := Lib.hid m6
    clear hi6 m1 m2 m3 m4 m5 m6
    have SC : Hid (∀ W, Below w6.heap.size w6 W → Calls Tryz.prog 85 #[.pointer (some ⟨B, 0, none⟩), .int .i64 ((r ^^^ 1 : Nat) : Int)] W fun e w' => e = .returned (.int .i64 (u' : Int)) ∧ Below w6.heap.size w6 w') := Lib.hid (fun W hW => (end_any (P := P) (r ^^^ 1) W (HN6.out.step hW) (xor_lt HU.out.2.1) hx2).mono (fun e w' k => ⟨by rw [k.1, end_xor, HU.out.1], hW.trans (k.2.mono hW.size)⟩))
    go_wp2_with fail
    refine wp_region_below (by kernel_rfl) (by kernel_rfl) ?_
    repeat (first
     | go_big_quiet_skip
     | (go_big_quiet_want
        first
         | (apply quiet_val
            focus (
             intro WC hWC
             obtain ⟨hcc0, hff0⟩ := bcell hWC
             go_simp
             all_goals rfl
             done)
            go_simp
            go_big_quiet_on)
         | (apply quiet_call
            focus (
             intro WC hWC
             go_simp
             all_goals (first | rfl | exact ⟨rfl, rfl⟩)
             done)
            focus (
             intro WC hWC
             with_reducible exact SC.out WC hWC
             done)
            go_simp
            go_big_quiet_on)))
    refine wpQuiet_nil ?_
    intro W7 hW7
    go_wp2_with fail
    go_roundg post.length
    case measure => simp
    case rel =>
     obtain ⟨e1, e2, e3, e4⟩ := HU.out
     rw [e1] at e3 e4
     exact ⟨pre ++ [r], post, u', rfl, by rw [HRS.out]; simp, rfl, by omega, e3, HST.out _ _ _ HI6.out hW7⟩
set_option maxHeartbeats 2000000 in
theorem least_any {P : Nat → Prop} {B F n : Nat} {l : List Ed} {adj : List (List Nat)} {xs : List Int} (r : Nat) (k : Int) (be bw : Nat) (w : World) (h : Net w P B F n l adj) (hf : FlAt w F xs) (hb : Bd l xs) (hm : ∀ e ∈ l, e.m ≤ 1073741824) (hr : r < 2 * l.length) (hr2 : r < 200000)
 (he : One w be (.int .i64 k) 3) (hw : One w bw (.pointer (some ⟨B, 0, none⟩)) 168) :
 Calls Tryz.prog 86 #[.int .i64 r, .pointer (some ⟨be, 0, none⟩), .pointer (some ⟨bw, 0, none⟩)] w fun e w' => e = .returned (.tuple #[]) ∧ ∃ W, Below w.heap.size w W ∧ w' = W.setCell ⟨be, 0, none⟩ (.int .i64 (min k (capR l xs r))) := by
 have S := Lib.hid (fun W (hW : Below w.heap.size w W) => capacity_any (P := P) r W (h.step hW) (hf.step hW) hb hm hr hr2)
 have c0 := he.cell
 have c1 := hw.cell
 have f0 := he.free
 have z0 := he.lt
 have z1 := hw.lt
 have HE := Lib.hid he
 have c0d : w.drew.cell? ⟨be, 0, none⟩ = some (.int .i64 k) := c0
 have c1d : w.drew.cell? ⟨bw, 0, none⟩ = some (.pointer (some ⟨B, 0, none⟩)) := c1
 clear h hf hb hm he hw
 have hmin : min k (capR l xs r) = if capR l xs r < k then capR l xs r else k := by
  split <;> omega
 rw [hmin]
 clear hmin
 go_enter Tryz.func86, Tryz.ntmps86
 go_wp2_with fail
 go_region_with (go_at_call 87; refine (S.out _ (by first | exact (Below.refl _ _).drew | exact Below.refl _ _)).mono ?_; rintro e w1 ⟨rfl, hb1⟩; have d0 := (hb1.cell (p := ⟨be, 0, none⟩) z0).trans c0d; have d1 := (hb1.cell (p := ⟨bw, 0, none⟩) z1).trans c1d; have d2 := (hb1.frozen (p := ⟨be, 0, none⟩) z0).trans f0; have d3 := hb1.size)
 all_goals
  go_end0
  exact ⟨rfl, w1, by first | exact hb1 | exact hb1.drew | exact ((Below.refl _ _).drew).trans hb1, rfl⟩
theorem pushy_any {P : Nat → Prop} {B F n : Nat} {l : List Ed} {adj : List (List Nat)} {xs : List Int} (r : Nat) (k : Int) (be bw : Nat) (w : World) (h : Net w P B F n l adj) (hf : FlAt w F xs) (hxl : xs.length = l.length) (hr : r < 2 * l.length) (hr2 : r < 200000)
 (hz : -4611686018427387904 ≤ xs.getD (r / 2) 0 ∧ xs.getD (r / 2) 0 ≤ 4611686018427387904) (hk : -4611686018427387000 ≤ k ∧ k ≤ 4611686018427387000)
 (he : One w be (.int .i64 k) 3) (hw : One w bw (.pointer (some ⟨B, 0, none⟩)) 168) :
 Calls Tryz.prog 88 #[.int .i64 r, .pointer (some ⟨bw, 0, none⟩), .pointer (some ⟨be, 0, none⟩)] w fun e w' => e = .returned (.tuple #[]) ∧ w' = w.setCell ⟨F, r / 2, none⟩ (.int .i64 ((pushR xs k r).getD (r / 2) 0)) := by
 have S := Lib.hid (push_any (P := P) r k w h hf hxl hr hr2 hz hk)
 have c0 := he.cell
 have c1 := hw.cell
 clear h hf he hw
 go_enter Tryz.func88, Tryz.ntmps88
 go_wp2_with fail
 refine (S.out).mono ?_
 rintro e w1 ⟨rfl, rfl⟩
 go_wp2_with fail
 go_end0
 exact ⟨rfl, rfl⟩
end Go.Proofs.YtalmbigebjbaoaaGreatDoor.Fl
