/- With wider ranges no bounds are narrower: the statement CallWider, for every input. No condition. -/
import Derived.Test.YthnaamkempmjkaaKw
import Derived.Test.YthnaamkempmjkaaV13
set_option linter.unusedSimpArgs false
set_option linter.unusedVariables false
open Go Go.TV Go.RowKit
namespace Go.Proofs.Ythnaamkempmjkaa

set_option maxRecDepth 100000 in
set_option maxHeartbeats 4000000 in
theorem lifted_CallWider (os : Os) (started : os.Started) (H : Type) (enc : TypeId × Value → H) :
    ReturnsInHanded {} Try.checked os 13 .any (Rows.callWiderSpec.pre6 enc Try.prog Try.f13 [] false) (Rows.callWiderSpec.post enc Try.prog Try.f13 false true false false) := by
  refine returnsInHanded_of_change (C := Try.checked) own started (by kernel_rfl) Try.func13
    (ChangeSpec.witness6 (enc := enc) (C := Try.checked) false ⟨#[], #[tSoc, .int .u8 0, .int .u8 0], []⟩ 8 (by kernel_rfl) (by kernel_rfl) (by kernel_rfl) (by kernel_rfl)) ?_
  intro W base args ds gs before hval hW _ _
  refine row_true (shs := [(true, shSoc), (false, [.int .u8]), (false, [.int .u8])]) (tb := 4) mixed laidOut (ts_ok (by kernel_rfl)) (by kernel_rfl) (by kernel_rfl) (by kernel_rfl) rfl ?_ hval hW ?_
  · intro hl
    rw [show Try.f13.params.size = 3 by kernel_rfl] at hl
    match ds, hl with
    | [d0, d1, d2], _ => rfl
  · intro ss h
    simp only [fitsArgs] at h
    obtain ⟨_, _, rfl, q1, _, _, rfl, q2, _, _, rfl, q3, rfl⟩ := h
    obtain ⟨v1, rfl⟩ := fits_soc q1
    obtain ⟨v2, rfl, h2⟩ := fits_int q2
    obtain ⟨v3, rfl, h3⟩ := fits_int q3
    exact c13 v1 v2 v3 h2 h3

set_option maxRecDepth 100000 in
theorem callWider_holds : Rows.CallWiderSaid :=
  OpenClaim.holds_of_wide 13 Try.f13 rfl rfl rfl rfl rfl rfl rfl ⟨rfl, rfl, rfl, rfl, rfl⟩ rfl rfl rfl rfl rfl (by kernel_rfl) Try.func13 (by kernel_rfl)
    (of_decide_eq_true (by kernel_rfl)) (by unfold Func.isWrapper; first | (rw [if_pos (by decide +kernel)]; kernel_rfl) | (rw [if_neg (by decide +kernel)]; exact ⟨rfl, rfl⟩))
    (fun os started H enc _ => lifted_CallWider os started H enc)
end Go.Proofs.Ythnaamkempmjkaa
