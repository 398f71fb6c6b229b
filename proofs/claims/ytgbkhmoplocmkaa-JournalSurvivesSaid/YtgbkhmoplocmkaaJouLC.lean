/- What lies in memory in a round of JournalSurvives. -/
import Derived.Test.YtgbkhmoplocmkaaJouLA
import Derived.Test.YtgbkhmoplocmkaaJouK
import Derived.Test.YtgbkhmoplocmkaaDskT
import Derived.Test.YtgbkhmoplocmkaaJouG
import Derived.Test.YtgbkhmoplocmkaaJouO
namespace Go.Proofs.Ytgbkhmoplocmkaa
open Go.RowKit Go.Shelf
set_option linter.unusedSimpArgs false
set_option linter.unusedVariables false
set_option maxRecDepth 20000

/-- between rounds: the disk in its box, the records that are kept -/
structure SvM (w : World) (B : Nat) (W : World) (sv pv sk : Sl) (d : Dk) : Prop where
  bd : Box4 W B (.slice sv.a sv.n sv.c) (.slice pv.a pv.n pv.c) (.int .i64 d.left) (.bool d.stopped)
  dd : Di W (fun b => b ≠ B) sv pv d
  kk : Se W (fun b => b ≠ B) sk (recsJ d.secs)
  lo : w.heap.size ≤ B
  bw : Below w.heap.size w W
theorem SvM.step {w : World} {B : Nat} {W W' : World} {sv pv sk : Sl} {d : Dk} (h : SvM w B W sv pv sk d) (hb : Below W.heap.size W W') : SvM w B W' sv pv sk d :=
  ⟨h.bd.step hb, h.dd.step hb, h.kk.step hb, h.lo, h.bw.trans (hb.mono h.bw.size)⟩
/-- in a round: the disk's box B, the crash's box C, the journal's box J -/
structure SvN (w : World) (B C J : Nat) (W : World) (sv pv sk r : Sl) (d : Dk) (ks : List (List Int)) (l : Jl) (v0 v1 v2 : Value) : Prop where
  bd : Box4 W B (.slice sv.a sv.n sv.c) (.slice pv.a pv.n pv.c) (.int .i64 d.left) (.bool d.stopped)
  bc : Box3 W C v0 v1 v2
  bl : Box3 W J (.slice r.a r.n r.c) (.int .i64 l.many) (.int .i64 l.synced)
  dd : Di W (fun b => b ≠ B ∧ b ≠ J) sv pv d
  kk : Se W (fun b => b ≠ B ∧ b ≠ J) sk ks
  ll : Se W (fun b => b ≠ B ∧ b ≠ J) r l.recs
  lo : w.heap.size ≤ B
  o1 : B < C
  o2 : C < J
  bw : Below w.heap.size w W
section
variable {w : World} {B C J : Nat} {W W' : World} {sv pv sk r : Sl} {d : Dk} {ks : List (List Int)} {l : Jl} {v0 v1 v2 : Value}
theorem SvN.step (h : SvN w B C J W sv pv sk r d ks l v0 v1 v2) (hb : Below W.heap.size W W') : SvN w B C J W' sv pv sk r d ks l v0 v1 v2 :=
  ⟨h.bd.step hb, h.bc.step hb, h.bl.step hb, h.dd.step hb, h.kk.step hb, h.ll.step hb, h.lo, h.o1, h.o2, h.bw.trans (hb.mono h.bw.size)⟩
theorem SvN.nw (h : SvN w B C J W sv pv sk r d ks l v0 v1 v2) {b : Nat} (hb : Nw (fun b => b ≠ B ∧ b ≠ J) W b) : b ≠ B ∧ b ≠ J :=
  hb.elim id (fun h1 => ⟨Nat.ne_of_gt (Nat.lt_of_lt_of_le h.bd.z h1), Nat.ne_of_gt (Nat.lt_of_lt_of_le h.bl.z h1)⟩)
theorem SvN.fresh (h : SvN w B C J W sv pv sk r d ks l v0 v1 v2) {b : Nat} (h1 : W.heap.size ≤ b) : b ≠ B ∧ b ≠ J := h.nw (.inr h1)
theorem SvN.putL (h : SvN w B C J W sv pv sk r d ks l v0 v1 v2) {r' : Sl} {l' : Jl} (hr : Se W (fun b => b ≠ B ∧ b ≠ J) r' l'.recs) : SvN w B C J (put3 W J (.slice r'.a r'.n r'.c) (.int .i64 l'.many) (.int .i64 l'.synced)) sv pv sk r' d ks l' v0 v1 v2 :=
  have k := put3_kp (fun b => b ≠ B ∧ b ≠ J) W (b := J) (fun x => x.2 rfl) (.slice r'.a r'.n r'.c) (.int .i64 l'.many) (.int .i64 l'.synced)
  have g := put3_keep W J (.slice r'.a r'.n r'.c) (.int .i64 l'.many) (.int .i64 l'.synced)
  ⟨h.bd.far g (by have := h.o1; have := h.o2; simp only [ne_eq, Option.some.injEq]; omega), h.bc.far g (by have := h.o2; simp only [ne_eq, Option.some.injEq]; omega), h.bl.put _ _ _, h.dd.keep k, h.kk.keep k, hr.keep k, h.lo, h.o1, h.o2, put3_below h.bw (by have := h.lo; have := h.o1; have := h.o2; omega) _ _ _⟩
theorem SvN.putD (h : SvN w B C J W sv pv sk r d ks l v0 v1 v2) {s' p' : Sl} {d' : Dk} (hd : Di W (fun b => b ≠ B ∧ b ≠ J) s' p' d') : SvN w B C J (put4 W B (.slice s'.a s'.n s'.c) (.slice p'.a p'.n p'.c) (.int .i64 d'.left) (.bool d'.stopped)) s' p' sk r d' ks l v0 v1 v2 :=
  have g := put4_keep (W := W) (b := B) (.slice s'.a s'.n s'.c) (.slice p'.a p'.n p'.c) (.int .i64 d'.left) (.bool d'.stopped)
  have k : Kp (fun b => b ≠ B ∧ b ≠ J) W _ := Kp.of_grown g (fun x => x.1 rfl)
  ⟨h.bd.put _ _ _ _, h.bc.far g (by have := h.o1; simp only [ne_eq, Option.some.injEq]; omega), h.bl.far g (by have := h.o1; have := h.o2; simp only [ne_eq, Option.some.injEq]; omega), hd.keep k, h.kk.keep k, h.ll.keep k, h.lo, h.o1, h.o2, put4_below h.bw h.lo _ _ _ _⟩
/-- the round's end -/
theorem SvN.next (h : SvN w B C J W sv pv sk r d ks l v0 v1 v2) {s' p' k' : Sl} {d' : Dk} (hd : Di W (fun b => b ≠ B ∧ b ≠ J) s' p' d') (hk : Se W (fun b => b ≠ B ∧ b ≠ J) k' (recsJ d'.secs)) : SvM w B (put4 W B (.slice s'.a s'.n s'.c) (.slice p'.a p'.n p'.c) (.int .i64 d'.left) (.bool d'.stopped)) s' p' k' d' :=
  have g := put4_keep (W := W) (b := B) (.slice s'.a s'.n s'.c) (.slice p'.a p'.n p'.c) (.int .i64 d'.left) (.bool d'.stopped)
  have k : Kp (fun b => b ≠ B ∧ b ≠ J) W _ := Kp.of_grown g (fun x => x.1 rfl)
  ⟨h.bd.put _ _ _ _, (hd.keep k).mono (fun _ x => x.1), (hk.keep k).mono (fun _ x => x.1), h.lo, put4_below h.bw h.lo _ _ _ _⟩
/-- the round's begin: the crash and the journal in boxes -/
theorem SvM.enter (h : SvM w B W sv pv sk d) {C J : Nat} (hc : Box3 W C v0 v1 v2) (hl : Box3 W J (.slice r.a r.n r.c) (.int .i64 l.many) (.int .i64 l.synced)) (o1 : B < C) (o2 : C < J) (hd : Di W (fun b => b ≠ B ∧ b ≠ J) sv pv d) (hk : Se W (fun b => b ≠ B ∧ b ≠ J) sk ks) (hr : Se W (fun b => b ≠ B ∧ b ≠ J) r l.recs) : SvN w B C J W sv pv sk r d ks l v0 v1 v2 :=
  ⟨h.bd, hc, hl, hd, hk, hr, h.lo, o1, o2, h.bw⟩
end
end Go.Proofs.Ytgbkhmoplocmkaa
