/- ProofDropped: for every input the law of chapter 20 returns true, and each argument reads afterwards as it read before. No condition. -/
import Derived.Test.YtgimpbcdgfkdmaaProL4
import Derived.Test.YtgimpbcdgfkdmaaOpen
import Derived.ProofKit
import Derived.OpenShut
namespace Go.Proofs.Ytgimpbcdgfkdmaa.proofDropped
open Go.ChangeShapes Go.WideShapes Go.ChangeAt Go.RowKit
set_option linter.unusedVariables false

theorem own : ownKnob Try.prog.godebug = none := by kernel_rfl
theorem laid : laidOutB Try.prog = true := by kernel_rfl

set_option maxRecDepth 100000 in
theorem lifted (os : Os) (started : os.Started) (H : Type) (enc : TypeId × Value → H) :
    ReturnsInHanded {} Try.checked os 10 .any (Rows.proofDroppedSpec.pre6 enc Try.prog Try.f10 Rows.proofDroppedRow.domain false) (Rows.proofDroppedSpec.post enc Try.prog Try.f10 false true false false) := by
  refine returnsInHanded_of_change (C := Try.checked) own started (by kernel_rfl) Try.func10
    (ChangeSpec.witness6 (enc := enc) (C := Try.checked) false ⟨#[], #[zero_Pg, .slice none 0 0, .int .u64 0], []⟩ 20 (by kernel_rfl) (by kernel_rfl) (by kernel_rfl) (by kernel_rfl)) ?_
  intro W base args ds gs before hval0 hW hcnd _
  have hval : ∀ (j : Nat) t v, Try.f10.params[j]? = some t → args[j]? = some v → Value.okWide Try.prog W .any base t v := hval0
  have hW0 := hW
  obtain ⟨p, q, hA0, hV, rfl, hfz, hnd⟩ := hW
  have hA : DataW.TrodAll enc Try.prog W 0 (fun _ => true) true Try.f10.params.toList args.toList ds p := hA0
  rw [Try.params10] at hA hval
  obtain ⟨v0, vs0, d0, ds0, p0, q0, hargs, rfl, rfl, h0, r0⟩ := trodAll_cons hA
  obtain ⟨v1, vs1, d1, ds1, p1, q1, rfl, rfl, rfl, h1, r1⟩ := trodAll_cons r0
  obtain ⟨v2, vs2, d2, ds2, p2, q2, rfl, rfl, rfl, h2, r2⟩ := trodAll_cons r1
  obtain ⟨rfl, rfl, rfl⟩ := trodAll_nil r2
  obtain rfl : args = #[v0, v1, v2] := by cases args; simp_all
  obtain ⟨rfl, rfl⟩ := trodVars_none hV
  obtain ⟨x0, rfl, hq0⟩ := openV_Pg (hval 0 _ v0 rfl rfl) h0
  obtain ⟨al1, ll1, cl1, e1⟩ := okWide_slice Try.underlying27 (hval 1 27 v1 rfl rfl)
  obtain ⟨A1, c1, xs1, rfl, hlc1, hm1, hx1, hq1, hnil1⟩ := open_reads (en := At.enc) (Q := At.ok) Try.underlying27 (Try.cells_At) (by omega) (fun _ _ _ h => openE_At h) ⟨al1, ll1, cl1, e1⟩ h1
  obtain ⟨a2, rfl, rfl, rfl, w2⟩ := open_int Try.underlying49 (hval 2 49 v2 rfl rfl) h2
  clear hA0 hval0
  refine (ProofDropped_any (w := W) x0 hq0 xs1 A1 c1 hx1 hq1 hlc1 hm1 (fun h => (hnil1 h).2) a2 w2).mono fun e W' ⟨he, hb⟩ => ?_
  subst he
  exact ⟨_, rfl, law_post laid (bt := 4) Try.underlying4 rfl (by rw [Try.params10]; intro t ht; simp at ht; rcases ht with rfl | rfl | rfl <;> exact ⟨by kernel_rfl, by decide +kernel⟩) rfl hW0 rfl rfl rfl hb⟩

theorem over : Rows.proofDroppedRow.holds Try.pinned (OpenSpec.ofChange Rows.proofDroppedSpec) :=
  OpenClaim.holds_of_wide 10 Try.f10 rfl rfl rfl rfl rfl rfl rfl ⟨rfl, rfl, rfl, rfl, rfl⟩ rfl rfl rfl rfl rfl (by kernel_rfl) Try.func10 (by kernel_rfl)
    (of_decide_eq_true (by kernel_rfl)) (by unfold Func.isWrapper; first | (rw [if_pos (by decide +kernel)]; kernel_rfl) | (rw [if_neg (by decide +kernel)]; exact ⟨rfl, rfl⟩))
    (fun os started H enc _ => lifted os started H enc)

theorem proved : Rows.ProofDroppedSaid :=
  over
#print axioms proved
end Go.Proofs.Ytgimpbcdgfkdmaa.proofDropped
