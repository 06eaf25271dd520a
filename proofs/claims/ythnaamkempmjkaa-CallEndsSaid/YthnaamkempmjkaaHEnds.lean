/- Both ends of all bounds are reached for some need: the statement CallEnds, for every input. No condition. -/
import Derived.Test.YthnaamkempmjkaaKw
import Derived.Test.YthnaamkempmjkaaV4
set_option linter.unusedSimpArgs false
set_option linter.unusedVariables false
open Go Go.TV Go.RowKit
namespace Go.Proofs.Ythnaamkempmjkaa

set_option maxRecDepth 100000 in
set_option maxHeartbeats 4000000 in
theorem lifted_CallEnds (os : Os) (started : os.Started) (H : Type) (enc : TypeId × Value → H) :
    ReturnsInHanded {} Try.checked os 4 .any (Rows.callEndsSpec.pre6 enc Try.prog Try.f4 [] false) (Rows.callEndsSpec.post enc Try.prog Try.f4 false true false false) := by
  refine returnsInHanded_of_change (C := Try.checked) own started (by kernel_rfl) Try.func4
    (ChangeSpec.witness6 (enc := enc) (C := Try.checked) false ⟨#[], #[tSoc, .int .u8 0], []⟩ 8 (by kernel_rfl) (by kernel_rfl) (by kernel_rfl) (by kernel_rfl)) ?_
  intro W base args ds gs before hval hW _ _
  refine row_true (shs := [(true, shSoc), (false, [.int .u8])]) (tb := 4) mixed laidOut (ts_ok (by kernel_rfl)) (by kernel_rfl) (by kernel_rfl) (by kernel_rfl) rfl ?_ hval hW ?_
  · intro hl
    rw [show Try.f4.params.size = 2 by kernel_rfl] at hl
    match ds, hl with
    | [d0, d1], _ => rfl
  · intro ss h
    simp only [fitsArgs] at h
    obtain ⟨_, _, rfl, q1, _, _, rfl, q2, rfl⟩ := h
    obtain ⟨v1, rfl⟩ := fits_soc q1
    obtain ⟨v2, rfl, h2⟩ := fits_int q2
    exact c4 v1 v2 h2

set_option maxRecDepth 100000 in
theorem callEnds_holds : Rows.CallEndsSaid :=
  OpenClaim.holds_of_wide 4 Try.f4 rfl rfl rfl rfl rfl rfl rfl ⟨rfl, rfl, rfl, rfl, rfl⟩ rfl rfl rfl rfl rfl (by kernel_rfl) Try.func4 (by kernel_rfl)
    (of_decide_eq_true (by kernel_rfl)) (by unfold Func.isWrapper; first | (rw [if_pos (by decide +kernel)]; kernel_rfl) | (rw [if_neg (by decide +kernel)]; exact ⟨rfl, rfl⟩))
    (fun os started H enc _ => lifted_CallEnds os started H enc)
end Go.Proofs.Ythnaamkempmjkaa
