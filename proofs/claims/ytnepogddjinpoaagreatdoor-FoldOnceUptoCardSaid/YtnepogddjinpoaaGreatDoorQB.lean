/-
  A region that draws its order, whose operations read and whose callees make memory alone: walked once, in the order of the text (wp_region_quiet at the class 'Below').
-/
import Derived.Test.YtnepogddjinpoaaGreatDoorM1
import Derived.Deep.QuietTactic
import Derived.BigQuiet
namespace Go.Proofs.YtnepogddjinpoaaGreatDoor
open Go.RowKit
set_option linter.unusedVariables false

theorem wp_region_below {P : Program} {id : Nat} {Q : Exit → Act → World → Prop} {a : Act} {w W : World} {l : List Oper} (hm : P.follows .mixedOrders = true) (hB : Region.lexB .any l.toArray = true) (hW : Below W.heap.size W w)
    (h : wpQuiet P l.toArray (fun w' => Below W.heap.size W w') (fun a' => ∀ w', Below W.heap.size W w' → Q .normal a' w') l a) : (Code.region id l.toArray true).wp P Q a w :=
  wp_region_quiet (C := fun w' => Below W.heap.size W w') hm hB hW.drew (by simpa using h)
theorem wpQuiet_one {P : Program} {ops : Array Oper} {C : World → Prop} {Q : Act → Prop} {a : Act} {o : Oper} {rest : List Oper} (hw : Region.wanted o (yielded ops a.tmps) = true) (v : Value) (a' : Act)
    (h : ∀ w, C w → o.quietAt P a C w v) (ha : a.put o.dst v = a') (hr : wpQuiet P ops C Q rest a') : wpQuiet P ops C Q (o :: rest) a :=
  BigFrame.wpQuiet_want hw fun K hK => ⟨v, h, hK _ (by rw [ha]; exact hr)⟩
/-- A callee that only makes memory, met in a world of the class. -/
theorem Calls.below_of {P : Program} {f : FuncId} {args : Array Value} {W w : World} {v : Value} (hw : Below W.heap.size W w)
    (h : Calls P f args w fun e w' => e = .returned v ∧ Below w.heap.size w w') : Calls P f args w fun e w' => e = .returned v ∧ Below W.heap.size W w' :=
  h.mono fun _ _ ⟨he, hb⟩ => ⟨he, below_step hw hb⟩
theorem Calls.below_same {P : Program} {f : FuncId} {args : Array Value} {W w : World} {v : Value} (hw : Below W.heap.size W w)
    (h : Calls P f args w fun e w' => e = .returned v ∧ w = w') : Calls P f args w fun e w' => e = .returned v ∧ Below W.heap.size W w' :=
  h.mono fun _ _ ⟨he, hb⟩ => ⟨he, by subst hb; exact hw⟩
end Go.Proofs.YtnepogddjinpoaaGreatDoor
