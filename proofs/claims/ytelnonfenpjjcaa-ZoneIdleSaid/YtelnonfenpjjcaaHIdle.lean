/- ZoneIdle holds: the given statement, for every input. No condition. -/
import Derived.Test.YtelnonfenpjjcaaZr
import Derived.Test.YtelnonfenpjjcaaWT
set_option linter.unusedSimpArgs false
set_option linter.unusedVariables false
open Go Go.TV Go.RowKit
namespace Go.Proofs.Ytelnonfenpjjcaa

set_option maxRecDepth 100000 in
set_option maxHeartbeats 4000000 in
theorem lifted_ZoneIdle (os : Os) (started : os.Started) (H : Type) (enc : TypeId × Value → H) :
    ReturnsInHanded {} Try.checked os 11 .any (Rows.zoneIdleSpec.pre6 enc Try.prog Try.f11 [] false) (Rows.zoneIdleSpec.post enc Try.prog Try.f11 false true false false) := by
  refine returnsInHanded_of_change (C := Try.checked) own started (by kernel_rfl) Try.func11
    (ChangeSpec.witness6 (enc := enc) (C := Try.checked) false ⟨#[], #[tRule, tZone, .int .u8 0, .slice none 0 0], []⟩ 8 (by kernel_rfl) (by kernel_rfl) (by kernel_rfl) (by kernel_rfl)) ?_
  intro W base args ds gs before hval hW _ _
  refine row_true (shs := [(true, shRule), (true, shZone), (false, [.int .u8]), (false, [.sl 1 false [.int .u8]])]) (tb := 4) mixed laidOut (ts_ok (by kernel_rfl)) (by kernel_rfl) (by kernel_rfl) (by kernel_rfl) rfl ?_ hval hW ?_
  · intro hl
    rw [show Try.f11.params.size = 4 by kernel_rfl] at hl
    match ds, hl with
    | [d0, d1, d2, d3], _ => rfl
  · intro ss h
    simp only [fitsArgs] at h
    obtain ⟨_, _, rfl, q1, _, _, rfl, q2, _, _, rfl, q3, _, _, rfl, q4, rfl⟩ := h
    obtain ⟨v1, rfl⟩ := fits_rule q1
    obtain ⟨v2, rfl⟩ := fits_zone q2
    obtain ⟨v3, rfl, h3⟩ := fits_int q3
    obtain ⟨v4, rfl, h4⟩ := fits_words q4
    exact c11 v1 v2 v3 v4 h3 h4.1 h4.2

set_option maxRecDepth 100000 in
theorem zoneIdle_holds : Rows.ZoneIdleSaid :=
  OpenClaim.holds_of_wide 11 Try.f11 rfl rfl rfl rfl rfl rfl rfl ⟨rfl, rfl, rfl, rfl, rfl⟩ rfl rfl rfl rfl rfl (by kernel_rfl) Try.func11 (by kernel_rfl)
    (of_decide_eq_true (by kernel_rfl)) (by unfold Func.isWrapper; first | (rw [if_pos (by decide +kernel)]; kernel_rfl) | (rw [if_neg (by decide +kernel)]; exact ⟨rfl, rfl⟩))
    (fun os started H enc _ => lifted_ZoneIdle os started H enc)
end Go.Proofs.Ytelnonfenpjjcaa
