/- degree.try, degree.caught and what Audit defers. -/
import Derived.Test.YtgimpbcdgfkdmaaProM
import Derived.Defers
import Derived.Recover
import Derived.RangeFuncLeaves
namespace Go.Proofs.Ytgimpbcdgfkdmaa
open Go.RowKit Go.Shelf
set_option linter.unusedSimpArgs false
set_option linter.unusedVariables false

/-- a panic with an error -/
def failE (e : Int) : List PanicEntry := [{ v := .iface 86 (.agg #[.int .i64 e]), recovered := false }]
theorem demand_ok (e : Int) (w : World) :
    Calls Try.prog 48 #[.bool true, .int .i64 e] w fun r w' => r = .returned (.tuple #[]) ∧ w = w' := by
  go_enter Try.func48, Try.ntmps48
  go_wp2_with fail
  go_end0
  exact ⟨rfl, rfl⟩
theorem demand_no (e : Int) (w : World) :
    Calls Try.prog 48 #[.bool false, .int .i64 e] w fun r w' => r = .panicked (failE e) ∧ w = w' := by
  go_enter Try.func48, Try.ntmps48
  go_wp2_with fail
  exact ⟨rfl, rfl, rfl⟩
theorem try_ok (w : World) :
    Calls Try.prog 35 #[.int .i64 0] w fun r w' => r = .returned (.tuple #[]) ∧ w = w' := by
  go_enter Try.func35, Try.ntmps35
  go_wp2_with fail
  refine (demand_ok 0 w).mono ?_
  rintro e w1 ⟨rfl, rfl⟩
  go_wp2_with fail
  go_end0
  exact ⟨rfl, rfl⟩
theorem try_no (e : Int) (he : e ≠ 0) (w : World) :
    Calls Try.prog 35 #[.int .i64 e] w fun r w' => r = .panicked (failE e) ∧ w = w' := by
  have e1 : (e == 0) = false := by simpa using he
  go_enter Try.func35, Try.ntmps35
  go_wp2_with fail
  refine (demand_no e w).mono ?_
  rintro r w1 ⟨rfl, rfl⟩
  exact ⟨rfl, rfl, rfl⟩
theorem caught_nil (b : Nat) (w : World) :
    Calls Try.prog 33 #[.nilIface, .pointer (some ⟨b, 0, none⟩)] w fun r w' => r = .returned (.tuple #[]) ∧ w = w' := by
  go_enter Try.func33, Try.ntmps33
  go_wp2_with fail
  go_end0
  exact ⟨rfl, rfl⟩
set_option maxRecDepth 100000 in
theorem caught_fail (e : Int) (b : Nat) (v : Value) (w : World) (h0 : Bx w b [v]) :
    Calls Try.prog 33 #[.iface 86 (.agg #[.int .i64 e]), .pointer (some ⟨b, 0, none⟩)] w fun r w' => r = .returned (.tuple #[]) ∧ w' = (w.setCell ⟨b, 0, none⟩ (.int .i64 e)).alloc (.cells #[.int .i64 e] 86) := by
  have c0 := h0.1 0 _ rfl
  have f0 := h0.2.1 0
  have z0 := h0.2.2
  have hta : ∀ (x : Value) (W : World), (Instr.typeAssert (.iface 86 x) 20 86 true).run Try.prog W = .ok (.tuple #[x, .bool true]) W := fun _ _ => by kernel_rfl
  go_enter Try.func33, Try.ntmps33
  go_wp2_with fail
  go_end0
  exact ⟨rfl, rfl⟩
/-- a deferred closure that may recover, no fence in the way -/
theorem callsDIn_of_wpS {P : Program} {n : Nat} {f : FuncId} {fn : Func} {c : Code} {args : Array Value} {u : FrameMode} {w : World} {R : Ending → FrameMode → World → Prop}
    (hf : P.funcs[f]? = some fn) (hb : fn.body = some c)
    (h : ∀ (c₀ : Frame) (cs : List Frame), c₀.mode = u → c.wpS P (bodyPostS P fn c₀ cs R) { tmps := args ++ Array.replicate (fn.ntmps - args.size) undef, defers := [] } (c₀ :: cs) w) :
    CallsDIn Fence.wide n P f args u w R := by
  refine ⟨trivial, fun c₀ cs hu _ => ?_⟩
  obtain ⟨b, hbd⟩ : ∃ b : Frame, b = { (default : Frame) with fn := f, kind := .deferred } := ⟨_, rfl⟩
  have hk : b.kind = .deferred := by rw [hbd]
  have hfn : b.fn = f := by rw [hbd]
  have henter : Frame.enter P f args .deferred = b.at { tmps := args ++ Array.replicate (fn.ntmps - args.size) undef, defers := [] } [.code c] := by
    simp [Frame.enter, Frame.at, hf, hb, hbd]
  obtain ⟨e, a', cs', w', hq, harr⟩ := h c₀ cs hu b [] hk (by rw [hbd]; rfl)
  rw [← henter] at harr
  cases e with
  | normal =>
    obtain ⟨hd, u', rfl, v, hr, hR⟩ := hq
    exact ⟨.returned v, u', w', _, hR, comesIn_wide.2 (Steps.trans harr (.one step_end)), hk, hfn, rfl, hd, fn, by rw [← hf]; exact congrArg (fun i => P.funcs[i]?) hfn, hr⟩
  | ret =>
    obtain ⟨hd, u', rfl, v, hr, hR⟩ := hq
    obtain ⟨todo, hs⟩ := harr
    exact ⟨.returned v, u', w', _, hR, comesIn_wide.2 hs, hk, hfn, rfl, hd, fn, by rw [← hf]; exact congrArg (fun i => P.funcs[i]?) hfn, hr⟩
  | panic chain =>
    obtain ⟨hd, u', rfl, hR⟩ := hq
    obtain ⟨todo, hs⟩ := harr
    exact ⟨.panicked chain, u', w', _, hR, comesIn_wide.2 hs, hk, hfn, rfl, hd, fn, by rw [← hf]; exact congrArg (fun i => P.funcs[i]?) hfn⟩
  | exit id => exact hq.elim
  | goto l => exact hq.elim
  | outgrown =>
    obtain ⟨u', hR⟩ := hq
    exact ⟨.outgrown, u', w', b, hR, comesIn_wide.2 (harr.resolve_left (by simp [hbd])), hk, hfn, trivial⟩
/-- what Audit defers, where it returns -/
theorem deferred_idle (n b : Nat) (w : World) :
    CallsDIn Fence.wide n Try.prog 32 #[.pointer (some ⟨b, 0, none⟩)] .returning w fun e u' w' => e = .returned (.tuple #[]) ∧ u' = .returning ∧ w' = w := by
  refine callsDIn_of_wpS Try.func32 rfl fun c₀ cs hu => ?_
  apply wpS_region
  simp [wpOpsS, go_sem, recoverD, hu, Try.ntmps32, Exit.thenS]
  refine (caught_nil b w).mono ?_
  rintro e w1 ⟨rfl, rfl⟩
  exact ⟨rfl, .returning, by rw [← hu], .tuple #[], results_none rfl _ _ _, rfl, rfl, rfl⟩
/-- what Audit defers, where it panics with an error -/
theorem deferred_caught (n b : Nat) (e : Int) (v : Value) (w : World) (h0 : Bx w b [v]) :
    CallsDIn Fence.wide n Try.prog 32 #[.pointer (some ⟨b, 0, none⟩)] (.panicking (failE e)) w fun r u' w' => r = .returned (.tuple #[]) ∧ settle u' = .returning ∧ w' = (w.setCell ⟨b, 0, none⟩ (.int .i64 e)).alloc (.cells #[.int .i64 e] 86) := by
  refine callsDIn_of_wpS Try.func32 rfl fun c₀ cs hu => ?_
  unfold failE at hu
  apply wpS_region
  simp [wpOpsS, go_sem, recoverD, hu, Try.ntmps32, Exit.thenS]
  refine (caught_fail e b v w h0).mono ?_
  rintro r w1 ⟨rfl, rfl⟩
  exact ⟨rfl, _, rfl, .tuple #[], results_none rfl _ _ _, rfl, rfl, rfl⟩
end Go.Proofs.Ytgimpbcdgfkdmaa
