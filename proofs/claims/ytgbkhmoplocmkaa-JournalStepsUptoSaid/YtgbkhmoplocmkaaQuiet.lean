/- Regions that draw their order and whose operations read what lay there, or call what adds new blocks alone: one walk in the order of the text. -/
import Derived.Test.YtgbkhmoplocmkaaLib
import Derived.BigQuiet
namespace Go.Proofs.Ytgbkhmoplocmkaa
open Go.RowKit

section
variable {P : Program}
theorem quiet_val {o : Oper} {a : Act} {C : World → Prop} {K : Act → Prop} {v : Value} (h : ∀ W, C W → (execOp a.eval o).run P W = .ok (.value v) W) (hk : K (a.put o.dst v)) : o.quiet P a C K :=
  ⟨v, fun W hW => by
    unfold Oper.quietAt
    rw [h W hW]
    exact ⟨rfl, rfl⟩, hk⟩
theorem quiet_call {o : Oper} {a : Act} {C : World → Prop} {K : Act → Prop} {v : Value} {f : FuncId} {args : Array Value} (h : ∀ W, C W → (execOp a.eval o).run P W = .ok (.enter f args) W)
    (hc : ∀ W, C W → Calls P f args W fun e w' => e = .returned v ∧ C w') (hk : K (a.put o.dst v)) : o.quiet P a C K :=
  ⟨v, fun W hW => by
    unfold Oper.quietAt
    rw [h W hW]
    exact ⟨rfl, hc W hW⟩, hk⟩
theorem wp_region_below {id : Nat} {Q : Exit → Act → World → Prop} {a : Act} {w : World} {l : List Oper} (hm : P.follows .mixedOrders = true) (hB : Region.lexB .any l.toArray = true)
    (h : wpQuiet P l.toArray (fun W => Below w.heap.size w W) (fun a' => ∀ w', Below w.heap.size w w' → Q .normal a' w') l a) : (Code.region id l.toArray true).wp P Q a w :=
  wp_region_quiet (C := fun W => Below w.heap.size w W) hm hB ((Below.refl _ w).drew) (by simpa using h)
end
end Go.Proofs.Ytgbkhmoplocmkaa
