/- The award of a case, and what the society pays of the fee, are losses of a society: in each truth the members pay just these as far as they can, each call within its bounds: the statement TopAwarded, for every input. No condition. -/
import Derived.Test.YtjadiajfbflghaaGreatA10
import Derived.Test.YtjadiajfbflghaaGreatA16
set_option linter.unusedSimpArgs false
set_option linter.unusedVariables false
set_option linter.unusedSimpArgs false
set_option linter.unusedVariables false
open Go Go.TV Go.RowKit
namespace Go.Proofs.YtjadiajfbflghaaGreat

set_option maxRecDepth 100000 in
set_option maxHeartbeats 4000000 in
theorem lifted_TopAwarded (os : Os) (started : os.Started) (H : Type) (enc : TypeId × Value → H) :
    ReturnsInHanded {} Tryz.checked os 3 .any (Rows.topAwardedSpec.pre6 enc Tryz.prog Tryz.f3 [] false) (Rows.topAwardedSpec.post enc Tryz.prog Tryz.f3 false true false false) := by
  refine returnsInHanded_of_change (C := Tryz.checked) own started (by kernel_rfl) Tryz.func3
    (ChangeSpec.witness6 (enc := enc) (C := Tryz.checked) false ⟨#[], #[tCas, tSoc, .slice none 0 0], []⟩ 8 (by kernel_rfl) (by kernel_rfl) (by kernel_rfl) (by kernel_rfl)) ?_
  intro W base args ds gs before hval hW _ _
  refine row_true (shs := [(true, shCas), (true, shSoc), (false, [.sl 1 false [.int .u8]])]) (tb := 4) mixed laidOut (ts_ok (by kernel_rfl)) (by kernel_rfl) (by kernel_rfl) (by kernel_rfl) rfl ?_ hval hW ?_
  · intro hl
    rw [show Tryz.f3.params.size = 3 by kernel_rfl] at hl
    match ds, hl with
    | [d0, d1, d2], _ => rfl
  · intro ss h
    simp only [fitsArgs] at h
    obtain ⟨_, _, rfl, q1, _, _, rfl, q2, _, _, rfl, q3, rfl⟩ := h
    obtain ⟨v1, rfl⟩ := fits_cas q1
    obtain ⟨v2, rfl⟩ := fits_soc q2
    obtain ⟨v3, rfl, h3⟩ := fits_words q3
    exact c3 v1 v2 v3 h3.1

set_option maxRecDepth 100000 in
theorem topAwarded_holds : Rows.TopAwardedSaid :=
  OpenClaim.holds_of_wide 3 Tryz.f3 rfl rfl rfl rfl rfl rfl rfl ⟨rfl, rfl, rfl, rfl, rfl⟩ rfl rfl rfl rfl rfl (by kernel_rfl) Tryz.func3 (by kernel_rfl)
    (of_decide_eq_true (by kernel_rfl)) (by unfold Func.isWrapper; first | (rw [if_pos (by decide +kernel)]; kernel_rfl) | (rw [if_neg (by decide +kernel)]; exact ⟨rfl, rfl⟩))
    (fun os started H enc _ => lifted_TopAwarded os started H enc)
end Go.Proofs.YtjadiajfbflghaaGreat
