/- TopDegree, what its proof leans on: the texts TopM, TopO. -/
import Derived.Test.YtalmbigebjbaoaaGreatDoorM31
import Derived.Test.YtalmbigebjbaoaaGreatDoorM33
import Derived.Test.YtalmbigebjbaoaaGreatDoorM23
import Derived.BigRegion
namespace Go.Proofs.YtalmbigebjbaoaaGreatDoor
open Go.RowKit Go.Shelf
set_option linter.unusedSimpArgs false
set_option linter.unusedVariables false
attribute [local go_sem] Oper.semAt_some
theorem Rd.enc_len_ (r : Rd) : r.enc.length = 5 := rfl
theorem Rd.enc_one (r : Rd) : ∀ u ∈ r.enc, u.oneCell' = true := by
 intro u hu
 simp only [Rd.enc, List.mem_cons, List.not_mem_nil, or_false] at hu
 rcases hu with rfl | rfl | rfl | rfl | rfl <;> rfl
theorem Tryz.infoRd : (Tryz.prog.info? 130).map (fun i => (i.zero, i.size, i.bytes)) = some (some (.agg #[.int .i64 0, .int .i64 0, .int .i64 0, .int .i64 0, .int .i64 0]), 5, 40) := by kernel_rfl
structure LkF (b : Nat) (v v' : Value) (W W' : World) : Prop where
 os : W'.os = W.os
 tape : W'.tape = W.tape
 output : W'.output = W.output
 size : W.heap.size ≤ W'.heap.size
 block : ∀ k, k < W.heap.size → k ≠ b → v.ownBlock ≠ some k → W'.heap[k]? = W.heap[k]?
 own : v'.ownBlock = v.ownBlock ∨ ∀ k, v'.ownBlock = some k → W.heap.size ≤ k
theorem LkF.trans {b : Nat} {v v' v'' : Value} {W W' W'' : World} (h : LkF b v v' W W') (k : LkF b v' v'' W' W'') : LkF b v v'' W W'' :=
 ⟨k.os.trans h.os, k.tape.trans h.tape, k.output.trans h.output, Nat.le_trans h.size k.size, fun j hj hb hv => (k.block j (by have := h.size; omega) hb (fun e => by
   rcases h.own with ho | ho
   ·exact hv (ho ▸ e)
   ·have := ho j e; omega)).trans (h.block j hj hb hv), by
   rcases k.own with ho | ho
   ·rw [ho]; exact h.own
   ·exact .inr (fun j e => Nat.le_trans h.size (ho j e))⟩
theorem LkF.of_below {b : Nat} {v : Value} {W W' : World} (h : Below W.heap.size W W') : LkF b v v W W' := ⟨h.os, h.tape, h.output, h.size, fun k hk _ _ => h.block k hk, .inl rfl⟩
theorem LkF.below {b B : Nat} {v v' : Value} {W W' : World} (h : LkF b v v' W W') (hb : B ≤ b) (hv : ∀ k, v.ownBlock = some k → B ≤ k) (hB : B ≤ W.heap.size) : Below B W W' :=
 ⟨h.os, h.tape, h.output, h.size, fun k hk => h.block k (by omega) (by omega) (fun e => by have := hv k e; omega)⟩
theorem LkF.kp {b : Nat} {v v' : Value} {W W' : World} {P : Nat → Prop} (h : LkF b v v' W W') (hp : ∀ k, P k → k ≠ b ∧ v.ownBlock ≠ some k) : Kp P W W' := ⟨h.size, fun k hk hl => h.block k hl (hp k hk).1 (hp k hk).2⟩
theorem LkF.grown {b : Nat} {v v' : Value} {W W1 : World} (hg : W.grownBy W1 v.ownBlock) (ho : v'.ownBlock = v.ownBlock ∨ v'.ownBlock = some W.heap.size) (u : Value) : LkF b v v' W (W1.setCell ⟨b, 0, none⟩ u) :=
 ⟨hg.os, hg.tape, hg.output, by simp [World.setCell]; exact hg.size, fun k hk hb hv => (Below.heap_setCell _ _ _ _ (by first | exact hb | exact hb.symm)).trans (hg.block k hk (fun e => hv e.symm)), by
   rcases ho with ho | ho
   ·exact .inl ho
   ·exact .inr (fun k e => by rw [ho] at e; cases e; exact Nat.le_refl _)⟩
def lkC (d : Wd) (known : Int) (v : Value) : List Value := [v, .slice d.c.a d.c.n d.c.c, .slice d.p.a d.p.n d.p.c, .slice d.y.a d.y.n d.y.c, .slice d.f.a d.f.n d.f.c, .int .i64 known]
structure Lk (n₀ b B : Nat) (d : Wd) (known : Int) (m : Nat) (v : Value) (W : World) : Prop where
 bx : Bx W b (lkC d known v)
 ow : ∃ rs : List Rd, Owns W B 130 5 Rd.enc v rs ∧ rs.length ≤ m
 ok : d.Ok W (fun k => k < n₀)
 kd : KindsAt W
 z0 : 0 < n₀
 z1 : n₀ ≤ b
 z2 : b < B
theorem Lk.step {n₀ b B : Nat} {d : Wd} {known : Int} {m : Nat} {v : Value} {W W' : World} (h : Lk n₀ b B d known m v W) (hb : Below W.heap.size W W') : Lk n₀ b B d known m v W' :=
 ⟨h.bx.step hb, let ⟨rs, h1, h2⟩ := h.ow; ⟨rs, h1.below hb (Nat.le_refl _), h2⟩, h.ok.step hb, h.kd.step hb, h.z0, h.z1, h.z2⟩
theorem Lk.base {n₀ b B : Nat} {d : Wd} {known : Int} {m : Nat} {v : Value} {W : World} (h : Lk n₀ b B d known m v W) : ∀ k, v.ownBlock = some k → B ≤ k := by
 obtain ⟨rs, h1, _⟩ := h.ow
 exact h1.base_le
theorem Lk.mono {n₀ b B : Nat} {d : Wd} {known : Int} {m m' : Nat} {v : Value} {W : World} (h : Lk n₀ b B d known m v W) (hm : m ≤ m') : Lk n₀ b B d known m' v W :=
 ⟨h.bx, let ⟨rs, h1, h2⟩ := h.ow; ⟨rs, h1, Nat.le_trans h2 hm⟩, h.ok, h.kd, h.z0, h.z1, h.z2⟩
set_option maxRecDepth 100000 in
set_option maxHeartbeats 4000000 in
theorem add_any {n₀ b B : Nat} {d : Wd} {known : Int} {m : Nat} {v : Value} (W : World) (hk : Lk n₀ b B d known m v W) (xs : List Rd) (A : Option Addr) (c : Nat) (hx : Reads W W.heap.size A 5 Rd.enc xs) (hnil : A = none → c = 0)
 (hm : m + xs.length ≤ 1099511627776) (hB : B ≤ W.heap.size) :
 Calls Tryz.prog 110 #[.pointer (some ⟨b, 0, none⟩), .slice A xs.length c] W fun e w' => e = .returned (.tuple #[]) ∧ ∃ v', Lk n₀ b B d known (m + xs.length) v' w' ∧ LkF b v v' W w' := by
 obtain ⟨rs, hown, hrs⟩ := hk.ow
 have HO := Lib.hid hown
 have HX := Lib.hid hx
 have HK := Lib.hid hk
 obtain ⟨x0, x1, x2⟩ := hk.bx
 have p0 : W.cell? ⟨b, 0, none⟩ = some v := x0 0 _ rfl
 have q0 := x1 0
 obtain ⟨i0, hi0, hz0, hz1, hz2⟩ := info_parts Tryz.infoRd
 have HI0 := Lib.hid hi0
 obtain ⟨A5, c5, rfl, _, hmax⟩ := hown.shape
 clear hi0 hx hk hown x0 x1 hmax
 go_enter Tryz.func110, Tryz.ntmps110
 go_wp2_with (at_builtin; refine stop_mk ?_)
 refine stop_out (wpList_append_reads (en := Rd.enc) (sz := 5) _ rfl _ _ _ rfl Rd.enc_len_ Rd.enc_one B 130 i0 _ 40 Tryz.underlying36 HI0.out hz0 hz1 hz2 rfl (by omega) _ rs rfl HO.out W.heap.size A c xs rfl HX.out hnil (by simp [maxLen]; omega) (by omega) hB ?_)
 intro v2 w2 ho2 hg2 hob _
 have hr : ∀ g, (Value.slice A5 rs.length c5).ownBlock = some g → B ≤ g := HO.out.base_le
 have hz2b : b < B := HK.out.z2
 have HB2 : Hid (Bx w2 b (lkC d known (.slice A5 rs.length c5))) := Lib.hid (HK.out.bx.keep (P := fun y => y = b) (Kp.of_grown2 hg2 (fun y hy e => by have := hr y e.symm; omega)) rfl)
 obtain ⟨y0, y1, y2⟩ := HB2.out
 have p0 := y0 0 _ rfl
 have q0 := y1 0
 have HO2 := Lib.hid ho2
 have HG2 := Lib.hid hg2
 have HOB := Lib.hid hob
 obtain ⟨A6, c6, rfl, _, _⟩ := ho2.shape
 rw [List.length_append] at HO2 HOB
 clear y0 y1 ho2 hg2 hob
 go_wp2_with fail
 go_end0
 have hF := LkF.grown HG2.out HOB.out (.slice A6 (rs.length + xs.length) c6) (b := b) (v' := .slice A6 (rs.length + xs.length) c6)
 have hB3 : ∀ g, (Value.slice A6 (rs.length + xs.length) c6).ownBlock = some g → B ≤ g := HO2.out.base_le
 have hlb : b < W.heap.size := x2
 have hz0 := HK.out.z0
 have hz1 := HK.out.z1
 refine ⟨rfl, .slice A6 (rs.length + xs.length) c6, ⟨HB2.out.setAt (i := 0) (by simp [lkC]) _, ⟨rs ++ xs, HO2.out.farS hz2b _, by simp; omega⟩, ?_, ?_, HK.out.z0, HK.out.z1, HK.out.z2⟩, hF⟩
 ·exact HK.out.ok.keep (hF.kp (fun k hk => ⟨by omega, fun e => by have := hr k e; omega⟩))
 ·intro i j u e
  exact (World.cell?_of_block (a := ⟨0, _, none⟩) (hF.block 0 (by omega) (by omega) (fun e => by have := hr 0 e; omega))).trans (HK.out.kd i j u e)
theorem Owns.same {α : Type} {w w' : World} {base sz : Nat} {e : TypeId} {en : α → List Value} {v : Value} {ys : List α} (h : Owns w base e sz en v ys) (hk : ∀ k, v.ownBlock = some k → w'.heap[k]? = w.heap[k]?) : Owns w' base e sz en v ys := by
 refine ⟨h.1, ?_⟩
 rcases h.2 with h1 | ⟨g, cap, cur, h1, h2, h3, h4⟩
 ·exact .inl h1
 ·exact .inr ⟨g, cap, cur, h1, h2, (hk g (by rw [h1]; rfl)).trans h3, h4⟩
set_option maxRecDepth 100000 in
set_option maxHeartbeats 4000000 in
theorem lkNumbers_any {n₀ b B : Nat} {d : Wd} {known : Int} {m : Nat} {v : Value} (W : World) (hk : Lk n₀ b B d known m v W) (hf : d.fs.length ≤ 100000) (hm : m + 1 ≤ 1099511627776) (hB : B ≤ W.heap.size) :
 Calls Tryz.prog 61 #[.pointer (some ⟨b, 0, none⟩)] W fun e w' =>
  ∃ (s : Sl) (v' : Value), e = .returned (.slice s.a s.n s.c) ∧ Owns w' W.heap.size 3 1 intE (.slice s.a s.n s.c) (numsF d.fs known) ∧ Lk n₀ b B d known (m + 1) v' w' ∧ LkF b v v' W w' ∧ ∀ k, (Value.slice s.a s.n s.c).ownBlock = some k → v'.ownBlock ≠ some k := by
 have HK := Lib.hid hk
 have HC := Lib.hid (fun W' (hb : Below W.heap.size W W') => bkNumbers_any (P := fun k => k < n₀) d known W' (hk.ok.step hb) hf)
 obtain ⟨x0, x1, x2⟩ := hk.bx
 have p1 := x0 1 _ rfl
 have p2 := x0 2 _ rfl
 have p3 := x0 3 _ rfl
 have p4 := x0 4 _ rfl
 have p5 := x0 5 _ rfl
 simp only [Wd.v] at HC
 clear x0 x1 hk
 go_enter Tryz.func61, Tryz.ntmps61
 go_wp2_with fail
 go_region_with (go_at_call 52; refine (HC.out _ (by first | exact (Below.refl _ _).drew | exact Below.refl _ _)).mono ?_; rintro e w5 ⟨⟨l, s, rfl, hl, hs⟩, hb5⟩)
 all_goals
  have hb6 : Below W.heap.size W w5 := (Below.refl W.heap.size W).drew.trans hb5
  have HK5 := Lib.hid (HK.out.step hb6)
  have HF5 : Hid (LkF b v v W w5) := Lib.hid (LkF.of_below hb6)
  obtain ⟨xs, hsl, hxl⟩ := hs
  obtain ⟨sa, sn, sc⟩ := s
  have hsn := hsl.1
  simp only at hsn
  subst hsn
  have HA := Lib.hid (add_any w5 HK5.out xs sa sc hsl.reads hsl.2.2.2.1 (by omega) (Nat.le_trans hB hb6.size))
  have HL := Lib.hid hl
  have HXL := Lib.hid hxl
  clear hl hsl hb5 hb6 p1 p2 p3 p4 p5 hxl
  go_wp2_with fail
  refine HA.out.mono ?_
  rintro e w7 ⟨rfl, v', hk7, hf7⟩
  have HK7 := Lib.hid hk7
  have HF7 := Lib.hid hf7
  clear hk7 hf7
  go_wp2_with fail
  go_ret
  refine ⟨l, v', rfl, HL.out.same (fun k hk => ?_), HK7.out.mono (by have := HXL.out; omega), HF5.out.trans HF7.out, fun k hk e => ?_⟩
  rotate_left
  ·have h1 : W.heap.size ≤ k := HL.out.base_le k hk
   have h2 := HL.out.lt k hk
   rcases HF7.out.own with ho | ho
   ·rw [ho] at e
    obtain ⟨rs, ho, _⟩ := HK.out.ow
    have := ho.lt k e
    omega
   ·have := ho k e
    omega
  have h1 := HL.out.base_le k hk
  have h1' : W.heap.size ≤ k := h1
  have h2 := HL.out.lt k hk
  have h3 := HK.out.z2
  exact HF7.out.block k h2 (by omega) (fun e => by
   obtain ⟨rs, ho, _⟩ := HK.out.ow
   have := ho.lt k e
   omega)
set_option maxRecDepth 100000 in
set_option maxHeartbeats 4000000 in
theorem lkGrades_any {n₀ b B : Nat} {d : Wd} {known : Int} {m : Nat} {v : Value} (student number term : Int) (W : World) (hk : Lk n₀ b B d known m v W) (hf : d.fs.length ≤ 100000) (hm : m + 1 ≤ 1099511627776) (hB : B ≤ W.heap.size) :
 Calls Tryz.prog 62 #[.pointer (some ⟨b, 0, none⟩), .int .i64 student, .int .i64 number, .int .i64 term] W fun e w' =>
  ∃ (s : Sl) (v' : Value), e = .returned (.slice s.a s.n s.c) ∧ Owns w' W.heap.size 146 2 ptE (.slice s.a s.n s.c) (ptsF d.fs ⟨5, student, number⟩ term known) ∧ Lk n₀ b B d known (m + 1) v' w' ∧ LkF b v v' W w' ∧ ∀ k, (Value.slice s.a s.n s.c).ownBlock = some k → v'.ownBlock ≠ some k := by
 have HK := Lib.hid hk
 have hfn := hk.ok.fs.1
 obtain ⟨⟨A4, n4, c4⟩, hd⟩ : ∃ s, s = d.f := ⟨_, rfl⟩
 rw [← hd] at hfn
 simp only at hfn
 subst hfn
 have HD := Lib.hid hd
 have HC := Lib.hid (fun (W' : World) (m' : Nat) (v' : Value) (h : Lk n₀ b B d known m' v' W') => by
  have hx := h.ok.fs.reads
  rw [← hd] at hx
  exact Points_any d.fs A4 c4 ⟨5, student, number⟩ term known W' hx hf)
 simp only [Ky.v] at HC
 have hB1 : Below W.heap.size W (W.alloc (.cells #[.int .i64 5, .int .i64 student, .int .i64 number] 86)) := (Below.refl _ _).alloc (Nat.le_refl _) _
 have hzb : b < W.heap.size := hk.bx.2.2
 have hB2 : Below W.heap.size W (((W.alloc (.cells #[.int .i64 5, .int .i64 student, .int .i64 number] 86)).alloc (.cells #[.int .i64 5, .int .i64 student, .int .i64 number, .int .i64 0, .int .i64 term] 130)).drew) := (hB1.alloc (by simp) _).drew
 have HB2 := Lib.hid hB2
 have HX2 : Hid (Bx (((W.alloc (.cells #[.int .i64 5, .int .i64 student, .int .i64 number] 86)).alloc (.cells #[.int .i64 5, .int .i64 student, .int .i64 number, .int .i64 0, .int .i64 term] 130)).drew) W.heap.size [.int .i64 5, .int .i64 student, .int .i64 number]) := Lib.hid ((Bx.new W [.int .i64 5, .int .i64 student, .int .i64 number] _).step (((Below.refl _ _).alloc (Nat.le_refl _) _).drew))
 have HA := Lib.hid (add_any _ (hk.step hB2) [⟨5, student, number, 0, term⟩] (some ⟨W.heap.size + 1, 0, none⟩) 1 (by
  have h := reads_one (W.alloc (.cells #[.int .i64 5, .int .i64 student, .int .i64 number] 86)) Rd.enc ⟨5, student, number, 0, term⟩ #[.int .i64 5, .int .i64 student, .int .i64 number, .int .i64 0, .int .i64 term] 130 rfl 5 (W.heap.size + 1) (by simp)
  have h2 := h.below (Below.refl (W.heap.size + 1 + 1) (World.alloc (W.alloc (.cells #[.int .i64 5, .int .i64 student, .int .i64 number] 86)) (.cells #[.int .i64 5, .int .i64 student, .int .i64 number, .int .i64 0, .int .i64 term] 130))).drew
  exact h2.more (by simp)) (fun h => by cases h) (by simp; omega) (Nat.le_trans hB hB2.size))
 clear hd hk hB2 hB1
 go_enter Tryz.func62, Tryz.ntmps62
 go_wp2_with fail
 go_region_with (go_at_call 110; refine HA.out.mono ?_; rintro e w7 ⟨rfl, v', hk7, hf7⟩)
 have HK7 := Lib.hid hk7
 have HF7 : Hid (LkF b v v' W w7) := Lib.hid ((LkF.of_below HB2.out).trans hf7)
 have hvz : ∀ k, v.ownBlock = some k → k < W.heap.size := fun k e => by
  obtain ⟨rs, ho, _⟩ := HK.out.ow
  exact ho.lt k e
 have hX7 : Bx w7 W.heap.size [.int .i64 5, .int .i64 student, .int .i64 number] := HX2.out.keep (P := fun y => y = W.heap.size) (hf7.kp (fun k e => by subst e; exact ⟨by omega, fun e => by have := hvz _ e; omega⟩)) rfl
 obtain ⟨y0, y1, y2⟩ := hX7
 have k0 := y0 0 _ rfl
 have k1 := y0 1 _ rfl
 have k2 := y0 2 _ rfl
 obtain ⟨x0, x1, x2⟩ := HK7.out.bx
 have p4 : w7.cell? ⟨b, 4, none⟩ = some (.slice A4 d.fs.length c4) := by
  have h := x0 4 _ rfl
  rw [← HD.out] at h
  exact h
 have p5 := x0 5 _ rfl
 have hk8 := HK7.out.step (Below.refl w7.heap.size w7).drew
 have HC8 := Lib.hid (HC.out _ _ _ hk8)
 clear hk7 hf7 y0 y1 x0 x1 hk8 HA HX2 HC
 go_wp2_with fail
 go_region_with (go_at_call 111; refine HC8.out.mono ?_; rintro e w8 ⟨⟨s, rfl, hs⟩, hb8⟩)
 all_goals
  have HB8 : Hid (Below w7.heap.size w7 w8) := Lib.hid ((Below.refl w7.heap.size w7).drew.trans hb8)
  have HS8 := Lib.hid hs
  clear hs hb8 k0 k1 k2 p4 p5
  go_wp2_with fail
  go_ret
  exact ⟨s, v', rfl, Owns.base' HS8.out HF7.out.size, HK7.out.step HB8.out, HF7.out.trans (LkF.of_below HB8.out), fun k hk e => by
   have h1 : w7.heap.size ≤ k := HS8.out.base_le k hk
   obtain ⟨rs, ho, _⟩ := HK7.out.ow
   have := ho.lt k e
   omega⟩
end Go.Proofs.YtalmbigebjbaoaaGreatDoor
