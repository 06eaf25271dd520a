/- The smallest rate that suffices, and the fewest members that are missed, are as the document says, or the error is: the statement CallRates, for every input. No condition. -/
import Derived.Test.YthnaamkempmjkaaKw
import Derived.Test.YthnaamkempmjkaaV3
set_option linter.unusedSimpArgs false
set_option linter.unusedVariables false
open Go Go.TV Go.RowKit
namespace Go.Proofs.Ythnaamkempmjkaa

set_option maxRecDepth 100000 in
set_option maxHeartbeats 4000000 in
theorem lifted_CallRates (os : Os) (started : os.Started) (H : Type) (enc : TypeId × Value → H) :
    ReturnsInHanded {} Try.checked os 3 .any (Rows.callRatesSpec.pre6 enc Try.prog Try.f3 [] false) (Rows.callRatesSpec.post enc Try.prog Try.f3 false true false false) := by
  refine returnsInHanded_of_change (C := Try.checked) own started (by kernel_rfl) Try.func3
    (ChangeSpec.witness6 (enc := enc) (C := Try.checked) false ⟨#[], #[tSoc], []⟩ 8 (by kernel_rfl) (by kernel_rfl) (by kernel_rfl) (by kernel_rfl)) ?_
  intro W base args ds gs before hval hW _ _
  refine row_true (shs := [(true, shSoc)]) (tb := 4) mixed laidOut (ts_ok (by kernel_rfl)) (by kernel_rfl) (by kernel_rfl) (by kernel_rfl) rfl ?_ hval hW ?_
  · intro hl
    rw [show Try.f3.params.size = 1 by kernel_rfl] at hl
    match ds, hl with
    | [d0], _ => rfl
  · intro ss h
    simp only [fitsArgs] at h
    obtain ⟨_, _, rfl, q1, rfl⟩ := h
    obtain ⟨v1, rfl⟩ := fits_soc q1
    exact c3 v1

set_option maxRecDepth 100000 in
theorem callRates_holds : Rows.CallRatesSaid :=
  OpenClaim.holds_of_wide 3 Try.f3 rfl rfl rfl rfl rfl rfl rfl ⟨rfl, rfl, rfl, rfl, rfl⟩ rfl rfl rfl rfl rfl (by kernel_rfl) Try.func3 (by kernel_rfl)
    (of_decide_eq_true (by kernel_rfl)) (by unfold Func.isWrapper; first | (rw [if_pos (by decide +kernel)]; kernel_rfl) | (rw [if_neg (by decide +kernel)]; exact ⟨rfl, rfl⟩))
    (fun os started H enc _ => lifted_CallRates os started H enc)
end Go.Proofs.Ythnaamkempmjkaa
