/- If owners whose covered value is known are the members of a society, each with this value as its Sum, their units are all that is covered in any truth of the book; who has nothing covered is no member; an owner with more covered pays no less than one with less, but for a penny: the statement TopInsured, for every input. No condition. -/
import Derived.Test.YtjadiajfbflghaaGreatB7
import Derived.Test.YtjadiajfbflghaaGreatB13
set_option linter.unusedSimpArgs false
set_option linter.unusedVariables false
set_option linter.unusedSimpArgs false
set_option linter.unusedVariables false
open Go Go.TV Go.RowKit
namespace Go.Proofs.YtjadiajfbflghaaGreat

set_option maxRecDepth 100000 in
set_option maxHeartbeats 4000000 in
theorem lifted_TopInsured (os : Os) (started : os.Started) (H : Type) (enc : TypeId × Value → H) :
  ReturnsInHanded {} Tryz.checked os 5 .any (Rows.topInsuredSpec.pre6 enc Tryz.prog Tryz.f5 [] false) (Rows.topInsuredSpec.post enc Tryz.prog Tryz.f5 false true false false) := by
 refine returnsInHanded_of_change (C := Tryz.checked) own started (by kernel_rfl) Tryz.func5
  (ChangeSpec.witness6 (enc := enc) (C := Tryz.checked) false ⟨#[], #[tBok, .int .u8 0, .int .u16 0], []⟩ 8 (by kernel_rfl) (by kernel_rfl) (by kernel_rfl) (by kernel_rfl)) ?_
 intro W base args ds gs before hval hW _ _
 refine row_true (shs := [(true, shBok), (false, [.int .u8]), (false, [.int .u16])]) (tb := 4) mixed laidOut (ts_ok (by kernel_rfl)) (by kernel_rfl) (by kernel_rfl) (by kernel_rfl) rfl ?_ hval hW ?_
 ·intro hl
  rw [show Tryz.f5.params.size = 3 by kernel_rfl] at hl
  match ds, hl with
  | [d0, d1, d2], _ => rfl
 ·intro ss h
  simp only [fitsArgs] at h
  obtain ⟨_, _, rfl, q1, _, _, rfl, q2, _, _, rfl, q3, rfl⟩ := h
  obtain ⟨v1, rfl⟩ := fits_bok q1
  obtain ⟨v2, rfl, h2⟩ := fits_int q2
  obtain ⟨v3, rfl, h3⟩ := fits_int q3
  exact c5 v1 v2 v3 h2 h3

set_option maxRecDepth 100000 in
theorem topInsured_holds : Rows.TopInsuredSaid :=
 OpenClaim.holds_of_wide 5 Tryz.f5 rfl rfl rfl rfl rfl rfl rfl ⟨rfl, rfl, rfl, rfl, rfl⟩ rfl rfl rfl rfl rfl (by kernel_rfl) Tryz.func5 (by kernel_rfl)
  (of_decide_eq_true (by kernel_rfl)) (by unfold Func.isWrapper; first | (rw [if_pos (by decide +kernel)]; kernel_rfl) | (rw [if_neg (by decide +kernel)]; exact ⟨rfl, rfl⟩))
  (fun os started H enc _ => lifted_TopInsured os started H enc)
end Go.Proofs.YtjadiajfbflghaaGreat
