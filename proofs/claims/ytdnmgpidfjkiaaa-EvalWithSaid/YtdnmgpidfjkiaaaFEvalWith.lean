/-
  'Rows.EvalWithSaid': THE ROW, out of the walk.
-/
import Derived.Test.YtdnmgpidfjkiaaaRows
import Derived.Test.YtdnmgpidfjkiaaaWEvalWith
import Derived.WalkKit
import Derived.ProofKit
import Derived.OpenShut
import Derived.ShutString
import Derived.SizedLaws
import Derived.JoinedCond
import Derived.Test.YtdnmgpidfjkiaaaVArg
import Derived.Test.YtdnmgpidfjkiaaaVEnvArg
namespace Go.Proofs.Ytdnmgpidfjkiaaa.evalWith
open Go.ChangeShapes Go.WideShapes Go.ChangeAt Go.RowKit
open Go.ChangeMaps (open_string shut_string)
set_option linter.unusedVariables false

theorem own : ownKnob Try.prog.godebug = none := by kernel_rfl
theorem reach_is : reachBytes = 140737488351232 := by decide

set_option maxRecDepth 100000 in
theorem contract (H : Type) (enc : TypeId × Value → H) (W : World) (base : Nat) (args : Array Value) (ds gs : List (DataW H)) (before : List MemPlace)
    (hval : ∀ (j : Nat) t v, Try.f3.params[j]? = some t → args[j]? = some v → Value.okWide Try.prog W .any base t v)
    (hW : DataW.Whole enc Try.prog Try.f3.params.toList Rows.evalWithSpec.vars false W args.toList ds gs before)
    (hk : (DataW.weightsEach Try.prog (Try.f3.params.toList ++ Rows.evalWithSpec.plain.varTypes Try.prog) (ds ++ gs)).all (· ≤ reachBytes) = true) :
    Calls Try.prog 3 args W fun e W' => ∃ v, e = .returned v ∧ Rows.evalWithSpec.post enc Try.prog Try.f3 false true false false W args v W' := by
  have hW' := hW
  obtain ⟨p, q, hA0, hV, rfl, hfz, hnd⟩ := hW
  have hA : DataW.TrodAll enc Try.prog W 0 (fun _ => true) true Try.f3.params.toList args.toList ds p := hA0
  rw [Try.params3] at hA hval
  obtain ⟨v0, vs0, d0, ds0, p0, q0, hargs, rfl, rfl, h0, r0⟩ := trodAll_cons hA
  obtain ⟨v1, vs1, d1, ds1, p1, q1, rfl, rfl, rfl, h1, r1⟩ := trodAll_cons r0
  obtain ⟨v2, vs2, d2, ds2, p2, q2, rfl, rfl, rfl, h2, r2⟩ := trodAll_cons r1
  obtain ⟨v3, vs3, d3, ds3, p3, q3, rfl, rfl, rfl, h3, r3⟩ := trodAll_cons r2
  obtain ⟨rfl, rfl, rfl⟩ := trodAll_nil r3
  obtain rfl : args = #[v0, v1, v2, v3] := arr_of hargs
  obtain ⟨rfl, rfl⟩ := trodVars_none hV
  obtain ⟨n0, f0⟩ := open_env (hval 0 28 v0 rfl rfl) h0
  have g0 := fun m (hm : n0 ≤ m) => (f0 m hm).imp fun r h => h.imp fun d h => h.imp fun a h => h.imp fun c h => h.imp fun root h => h.imp fun dot h => h.imp fun vars h => (⟨h.1, h.2.1, h.2.2 (fun z hz => Nat.le_trans (show z ≤ reachBytes by simpa using List.all_eq_true.1 hk z (DataW.weights_mem_each (j := 0) rfl rfl z hz)) (Nat.le_of_eq reach_is))⟩ : _ ∧ _ ∧ _)
  obtain ⟨a1, rfl, rfl, rfl, w1⟩ := open_string Try.underlying9 (hval 1 9 v1 rfl rfl) h1
  obtain ⟨n2, f2⟩ := open_value_all (hval 2 25 v2 rfl rfl) h2
  have g2 := fun m (hm : n2 ≤ m) => (f2 m hm).imp fun t h => (⟨h.1, h.2.2 (fun z hz => Nat.le_trans (show z ≤ reachBytes by simpa using List.all_eq_true.1 hk z (DataW.weights_mem_each (j := 2) rfl rfl z hz)) (Nat.le_of_eq reach_is))⟩ : _ ∧ _)
  obtain ⟨a3, rfl, rfl, rfl, w3⟩ := open_string Try.underlying9 (hval 3 9 v3 rfl rfl) h3
  have s1 : a1.size ≤ 140737488351232 := by have h := sized_string (j := 1) (bytes := a1.data.toList) hk rfl rfl; have e := size_list a1; have e2 := reach_is; omega
  have s3 : a3.size ≤ 140737488351232 := by have h := sized_string (j := 3) (bytes := a3.data.toList) hk rfl rfl; have e := size_list a3; have e2 := reach_is; omega
  clear hA0
  refine (evalWith_walk v0 a1 s1 v2 a3 s3 W n0 g0 n2 g2).mono fun e W' ⟨he, hg⟩ => ?_
  subst he
  exact ⟨_, rfl, post_of_below (pa := (p0 ++ ([] ++ (p2 ++ ([] ++ ([])))))) (pv := []) hW' (fun _ _ _ => (trodAll_cons_mk (shut_bool Try.underlying4 _) trodAll_mk0)) (fun sp hsp => (trodAll_cons_mk (again_env h0 hg (fun x hx => hW'.lt x (by simp [hx])) sp (fun x hx => hsp x (by simp [hx]))) (trodAll_cons_mk (shut_string Try.underlying9 w1) (trodAll_cons_mk (again_value h2 hg (fun x hx => hW'.lt x (by simp [hx])) sp (fun x hx => hsp x (by simp [hx]))) (trodAll_cons_mk (shut_string Try.underlying9 w3) trodAll_mk0))))) (fun _ _ => rfl) (by simp) hg (ok_one (by kernel_rfl) rfl (okWide_bool_mk Try.underlying4 _))⟩

set_option maxRecDepth 100000 in
theorem lifted (os : Os) (started : os.Started) (H : Type) (enc : TypeId × Value → H) :
    ReturnsInHanded {} Try.checked os 3 .any (Rows.evalWithSpec.pre6 enc Try.prog Try.f3 Rows.evalWithRow.domain false) (Rows.evalWithSpec.post enc Try.prog Try.f3 false true false false) := by
  refine returnsInHanded_of_change_sized (C := Try.checked) own started (by kernel_rfl) Try.func3
    (ChangeSpec.witness6 (enc := enc) (C := Try.checked) false ⟨#[], #[.agg #[.int .i64 0, .int .i64 0, .string .empty, .slice none 0 0, .slice none 0 0, .int .i64 0, .int .i64 0, .string .empty, .slice none 0 0, .slice none 0 0, .slice none 0 0], .string .empty, .agg #[.int .i64 0, .int .i64 0, .string .empty, .slice none 0 0, .slice none 0 0], .string .empty], []⟩ 8 (by kernel_rfl) (by kernel_rfl) (by kernel_rfl) (by kernel_rfl)) ?_
  intro W base args ds gs before hval hW _ hk _
  exact contract H enc W base args ds gs before hval hW hk

theorem proved : Rows.EvalWithSaid :=
  OpenClaim.holds_of_wide 3 Try.f3 rfl rfl rfl rfl rfl rfl rfl ⟨rfl, rfl, rfl, rfl, rfl⟩ rfl rfl rfl rfl rfl (by kernel_rfl) Try.func3 (by kernel_rfl)
    (of_decide_eq_true (by kernel_rfl)) (by unfold Func.isWrapper; first | (rw [if_pos (by decide +kernel)]; kernel_rfl) | (rw [if_neg (by decide +kernel)]; exact ⟨rfl, rfl⟩))
    (fun os started H enc _ => lifted os started H enc)
end Go.Proofs.Ytdnmgpidfjkiaaa.evalWith
