/- The examples of the document and the errors: the statement CallNames, for every input. No condition. -/
import Derived.Test.YthnaamkempmjkaaKw
import Derived.Test.YthnaamkempmjkaaV16
set_option linter.unusedSimpArgs false
set_option linter.unusedVariables false
open Go Go.TV Go.RowKit
namespace Go.Proofs.Ythnaamkempmjkaa

set_option maxRecDepth 100000 in
set_option maxHeartbeats 4000000 in
theorem lifted_CallNames (os : Os) (started : os.Started) (H : Type) (enc : TypeId × Value → H) :
    ReturnsInHanded {} Try.checked os 16 .any (Rows.callNamesSpec.pre6 enc Try.prog Try.f16 [] false) (Rows.callNamesSpec.post enc Try.prog Try.f16 false true false false) := by
  refine returnsInHanded_of_change (C := Try.checked) own started (by kernel_rfl) Try.func16
    (ChangeSpec.witness6 (enc := enc) (C := Try.checked) false ⟨#[], #[], []⟩ 8 (by kernel_rfl) (by kernel_rfl) (by kernel_rfl) (by kernel_rfl)) ?_
  intro W base args ds gs before hval hW _ _
  refine row_true (shs := []) (tb := 4) mixed laidOut (ts_ok (by kernel_rfl)) (by kernel_rfl) (by kernel_rfl) (by kernel_rfl) rfl ?_ hval hW ?_
  · intro hl
    rw [show Try.f16.params.size = 0 by kernel_rfl] at hl
    match ds, hl with
    | [], _ => rfl
  · intro ss h
    simp only [fitsArgs] at h
    obtain ⟨rfl⟩ := h

    exact c16

set_option maxRecDepth 100000 in
theorem callNames_holds : Rows.CallNamesSaid :=
  OpenClaim.holds_of_wide 16 Try.f16 rfl rfl rfl rfl rfl rfl rfl ⟨rfl, rfl, rfl, rfl, rfl⟩ rfl rfl rfl rfl rfl (by kernel_rfl) Try.func16 (by kernel_rfl)
    (of_decide_eq_true (by kernel_rfl)) (by unfold Func.isWrapper; first | (rw [if_pos (by decide +kernel)]; kernel_rfl) | (rw [if_neg (by decide +kernel)]; exact ⟨rfl, rfl⟩))
    (fun os started H enc _ => lifted_CallNames os started H enc)
end Go.Proofs.Ythnaamkempmjkaa
