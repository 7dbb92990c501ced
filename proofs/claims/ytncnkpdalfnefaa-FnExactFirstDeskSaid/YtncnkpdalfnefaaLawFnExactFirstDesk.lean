/- The law FnExactFirstDesk holds: for every input it returns true, and each argument reads afterwards as it read before. -/
import Derived.Test.YtncnkpdalfnefaaRows
import Derived.Test.YtncnkpdalfnefaaF3
import Derived.Test.YtncnkpdalfnefaaPureFnExactFirstDesk
import Derived.Test.YtncnkpdalfnefaaQHead
import Derived.WalkKit
import Derived.ProofKit
import Derived.OpenShut
import Derived.ShutString
import Derived.ChangeOld
import Derived.Below
import Derived.SizedLaws
import Derived.Lib.SmallJoins
namespace Go.Proofs.Ytncnkpdalfnefaa.fnExactFirstDesk
open Go.ChangeShapes Go.WideShapes Go.ChangeAt Go.RowKit Go.Joins Go.Proofs.YtncnkpdalfnefaaW.PrintWords
open Go.ChangeMaps (open_string shut_string)
set_option linter.unusedVariables false
theorem own : ownKnob Try.prog.godebug = none := by kernel_rfl
theorem walk  (w : World)  :
    Calls Try.prog 3 #[] w fun e w' => e = .returned (.bool true) ∧ Below w.heap.size w w' := by
  obtain ⟨k, h⟩ := Pure.FnExactFirstDesk  
  refine (P.laws_FnExactFirstDesk.calls k  true w h).mono ?_
  rintro e w' ⟨rfl, hd⟩
  first | exact ⟨rfl, hd⟩ | exact ⟨rfl, hd.below⟩
set_option maxRecDepth 100000 in
theorem lifted (os : Os) (started : os.Started) (H : Type) (enc : TypeId × Value → H) :
    ReturnsInHanded {} Try.checked os 3 .any (Rows.fnExactFirstDeskSpec.pre6 enc Try.prog Try.f3 Rows.fnExactFirstDeskRow.domain false) (Rows.fnExactFirstDeskSpec.post enc Try.prog Try.f3 false true false false) := by
  refine returnsInHanded_of_change_sized (C := Try.checked) own started (by kernel_rfl) Try.func3
    (ChangeSpec.witness6 (enc := enc) (C := Try.checked) false ⟨#[], #[], []⟩ 8 (by kernel_rfl) (by kernel_rfl) (by kernel_rfl) (by kernel_rfl)) ?_
  intro W base args ds gs before hval0 hW hcnd hsz0 _
  have hsz : (DataW.weightsEach Try.prog (Try.f3.params.toList ++ Rows.fnExactFirstDeskSpec.plain.varTypes Try.prog) (ds ++ gs)).all (· ≤ reachBytes) = true := hsz0
  have hval : ∀ (j : Nat) t v, Try.f3.params[j]? = some t → args[j]? = some v → Value.okWide Try.prog W .any base t v := hval0
  have hW' := hW
  obtain ⟨p, q, hA0, hV, rfl, hfz, hnd⟩ := hW
  have hA : DataW.TrodAll enc Try.prog W 0 (fun _ => true) true Try.f3.params.toList args.toList ds p := hA0
  rw [Try.params3] at hA hval hsz
  obtain ⟨rfl, rfl, rfl⟩ := trodAll_none hA
  obtain ⟨rfl, rfl⟩ := trodVars_none hV
  clear hA0 hval0 hsz0 hsz
  refine (walk  W ).mono fun e W' ⟨he, bel⟩ => ?_
  subst he
  exact ⟨_, rfl, _, _, _, [], _, [], hW', trodAll_mk1 (shut_bool Try.underlying4 _), trodAll_mk0, rfl, bel.frame _, fun h => by cases h⟩
theorem c_lift : (Rows.fnExactFirstDeskRow.lifted == Try.pinned.checked.prog.liftsFinal) = true := by rw [Head.lift]; rfl
theorem c_make : (Try.pinned.checked.prog.make == some Rows.fnExactFirstDeskRow.make) = true := by rw [Head.make]; rfl
set_option maxHeartbeats 8000000 in
theorem c_closed : joinedFacts Try.pinned.checked.prog 3 Try.f3 Rows.fnExactFirstDeskSpec Rows.fnExactFirstDeskRow = true := by
  unfold joinedFacts
  repeat' (with_reducible refine Head.and_t ?_ ?_)
  all_goals first | (with_reducible exact Head.enter) | (with_reducible exact c_lift) | (with_reducible exact c_make) | (as_aux_lemma => kernel_rfl)
theorem over : Rows.fnExactFirstDeskRow.holds Try.pinned (OpenSpec.ofChange Rows.fnExactFirstDeskSpec) :=
  OpenClaim.holds_of_wide 3 Try.f3 rfl rfl rfl rfl rfl rfl rfl ⟨rfl, rfl, rfl, rfl, rfl⟩ rfl rfl rfl rfl rfl (by as_aux_lemma => kernel_rfl) Try.func3 c_closed
    (of_decide_eq_true (by as_aux_lemma => kernel_rfl)) (by unfold Func.isWrapper; first | (rw [if_neg (by decide +kernel)]; exact ⟨rfl, rfl⟩) | (rw [if_pos (by decide +kernel)]; kernel_rfl))
    (fun os started H enc _ => lifted os started H enc)
theorem proved : Rows.FnExactFirstDeskSaid := over
#print axioms proved
end Go.Proofs.Ytncnkpdalfnefaa.fnExactFirstDesk
namespace Go.Proofs.Ytncnkpdalfnefaa
/-- The row, under a short name, for the claim. -/
theorem fnExactFirstDesk_holds : Rows.FnExactFirstDeskSaid := fnExactFirstDesk.proved
end Go.Proofs.Ytncnkpdalfnefaa
