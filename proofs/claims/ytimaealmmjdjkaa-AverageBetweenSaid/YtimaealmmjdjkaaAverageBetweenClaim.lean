/- AverageBetween: for every input the law of chapter 15 returns true, and each argument reads afterwards as it read before. No condition. -/
import Derived.Test.YtimaealmmjdjkaaAvgL4
import Derived.Test.YtimaealmmjdjkaaOpen
import Derived.ProofKit
import Derived.OpenShut
namespace Go.Proofs.Ytimaealmmjdjkaa.averageBetween
open Go.ChangeShapes Go.WideShapes Go.ChangeAt Go.RowKit
set_option linter.unusedVariables false

theorem own : ownKnob Try.prog.godebug = none := by kernel_rfl
theorem laid : laidOutB Try.prog = true := by kernel_rfl

set_option maxRecDepth 100000 in
theorem lifted (os : Os) (started : os.Started) (H : Type) (enc : TypeId × Value → H) :
    ReturnsInHanded {} Try.checked os 8 .any (Rows.averageBetweenSpec.pre6 enc Try.prog Try.f8 Rows.averageBetweenRow.domain false) (Rows.averageBetweenSpec.post enc Try.prog Try.f8 false true false false) := by
  refine returnsInHanded_of_change (C := Try.checked) own started (by kernel_rfl) Try.func8
    (ChangeSpec.witness6 (enc := enc) (C := Try.checked) false ⟨#[], #[.slice none 0 0, zero_At], []⟩ 20 (by kernel_rfl) (by kernel_rfl) (by kernel_rfl) (by kernel_rfl)) ?_
  intro W base args ds gs before hval0 hW hcnd _
  have hval : ∀ (j : Nat) t v, Try.f8.params[j]? = some t → args[j]? = some v → Value.okWide Try.prog W .any base t v := hval0
  have hW0 := hW
  obtain ⟨p, q, hA0, hV, rfl, hfz, hnd⟩ := hW
  have hA : DataW.TrodAll enc Try.prog W 0 (fun _ => true) true Try.f8.params.toList args.toList ds p := hA0
  rw [Try.params8] at hA hval
  obtain ⟨v0, vs0, d0, ds0, p0, q0, hargs, rfl, rfl, h0, r0⟩ := trodAll_cons hA
  obtain ⟨v1, vs1, d1, ds1, p1, q1, rfl, rfl, rfl, h1, r1⟩ := trodAll_cons r0
  obtain ⟨rfl, rfl, rfl⟩ := trodAll_nil r1
  obtain rfl : args = #[v0, v1] := by cases args; simp_all
  obtain ⟨rfl, rfl⟩ := trodVars_none hV
  obtain ⟨al0, ll0, cl0, e0⟩ := okWide_slice Try.underlying22 (hval 0 22 v0 rfl rfl)
  obtain ⟨A0, c0, xs0, rfl, hlc0, hm0, hx0, hq0, hnil0⟩ := open_reads (en := At.enc) (Q := At.ok) Try.underlying22 (Try.cells_At) (by omega) (fun _ _ _ h => openE_At h) ⟨al0, ll0, cl0, e0⟩ h0
  obtain ⟨x1, rfl, hq1⟩ := openV_At (hval 1 _ v1 rfl rfl) h1
  clear hA0 hval0
  refine (AverageBetween_any (w := W) xs0 A0 c0 hx0 hq0 (Nat.le_trans hlc0 hm0) (fun h => (hnil0 h).2) x1 hq1).mono fun e W' ⟨he, hb⟩ => ?_
  subst he
  exact ⟨_, rfl, law_post laid (bt := 4) Try.underlying4 rfl (by rw [Try.params8]; intro t ht; simp at ht; rcases ht with rfl | rfl <;> exact ⟨by kernel_rfl, by decide +kernel⟩) rfl hW0 rfl rfl rfl hb⟩

theorem over : Rows.averageBetweenRow.holds Try.pinned (OpenSpec.ofChange Rows.averageBetweenSpec) :=
  OpenClaim.holds_of_wide 8 Try.f8 rfl rfl rfl rfl rfl rfl rfl ⟨rfl, rfl, rfl, rfl, rfl⟩ rfl rfl rfl rfl rfl (by kernel_rfl) Try.func8 (by kernel_rfl)
    (of_decide_eq_true (by kernel_rfl)) (by unfold Func.isWrapper; first | (rw [if_pos (by decide +kernel)]; kernel_rfl) | (rw [if_neg (by decide +kernel)]; exact ⟨rfl, rfl⟩))
    (fun os started H enc _ => lifted os started H enc)

theorem proved : Rows.AverageBetweenSaid :=
  over
#print axioms proved
end Go.Proofs.Ytimaealmmjdjkaa.averageBetween
