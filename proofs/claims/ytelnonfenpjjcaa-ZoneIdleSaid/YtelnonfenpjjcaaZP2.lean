/- A list copied, as its own; a zone without a year. -/
import Derived.Test.YtelnonfenpjjcaaZO2
import Derived.Test.YtelnonfenpjjcaaZn
import Derived.Test.YtelnonfenpjjcaaMe3
set_option linter.unusedSimpArgs false
set_option linter.unusedVariables false
open Go Go.TV
namespace Go.Proofs.Ytelnonfenpjjcaa

theorem po42 (l : List Int) (h : l.length ≤ 1000000) : PO Try.prog 42 [.sl 1 (ints l)] 3 1 (ints l) := by
  refine PO.of (ints_clo _) (TF.ev fn_42 (Ev.at ?_))
  (repeat' (first | (refine Ev.go ?_; conv => whnf) | refine And.intro ?_ ?_ | exact True.intro | exact rfl | (intro rx hrx; rw [IntWalk.i64_in _ (by omega)] at hrx) | (intro hcx; exfalso; omega) | (intro hcx; exfalso; simp only [ints_len, encYs_len] at hcx; omega) | (intro ex hex; (first | obtain ⟨xx, hxx, rfl⟩ := ints_at hex | obtain ⟨xx, hxx, rfl⟩ := encYs_at hex | obtain ⟨xx, hxx, rfl⟩ := encYs_cut hex); clear hex; try simp only [Int.toNat_natCast] at hxx) | intro _))
  all_goals (try (refine ⟨?_⟩; first | (simp [repl, ints_len]; omega) | (simp [repl]; done) | (simp [repl]; exact ints_clo _)))
  all_goals (first | (refine ⟨?_⟩; first | rfl | exact List.cons_ne_nil _ _ | (show (_ : Nat) * _ ≤ _; simp [catS, repl, chunks, ints_len, encYs_len] <;> omega) | exact shS _ _ | exact shM _ | exact shN | exact encM_clo _ | exact ⟨rfl, rfl⟩ | exact ⟨rfl, rfl, rfl⟩ | omega | (simp only [ints_len, encYs_len]; omega) | (simp; omega) | (simp [cloL, clo, catS, repl, ints_clo, encYs_clo, encR, encY, encS]; done) | (show chkGo _ _ _ _ _ = true; kernel_rfl)) | (simp [cloL, clo, catS, repl, ints_clo, encYs_clo, encR, encY, encS]; done) | skip)

set_option maxRecDepth 100000 in
theorem c41 (z : Zone) (k : Nat) (h : z.years.length ≤ 1000) (hk : k < z.years.length) : PF Try.prog 41 [encZ z, .int .i64 k] (· = encZ (cutY z k)) := by
  have hz := encYs_len z.years
  refine PF.of (TF.ev fn_41 (Ev.at ?_))
  (repeat' (first | (refine Ev.go ?_; conv => whnf) | refine And.intro ?_ ?_ | exact True.intro | exact rfl | (intro rx hrx; rw [IntWalk.i64_in _ (by omega)] at hrx) | (intro hcx; exfalso; omega) | (intro hcx; exfalso; simp only [ints_len, encYs_len] at hcx; omega) | (intro ex hex; (first | obtain ⟨xx, hxx, rfl⟩ := ints_at hex | obtain ⟨xx, hxx, rfl⟩ := encYs_at hex | obtain ⟨xx, hxx, rfl⟩ := encYs_cut hex); clear hex; try simp only [Int.toNat_natCast] at hxx) | intro _))
  all_goals (first | (refine ⟨?_⟩; first | rfl | exact List.cons_ne_nil _ _ | (show (_ : Nat) * _ ≤ _; simp [catS, repl, chunks, ints_len, encYs_len] <;> omega) | exact shS _ _ | exact shM _ | exact shN | exact encM_clo _ | exact ⟨rfl, rfl⟩ | exact ⟨rfl, rfl, rfl⟩ | omega | (simp only [ints_len, encYs_len]; omega) | (simp; omega) | (simp [cloL, clo, catS, repl, ints_clo, encYs_clo, encR, encY, encS]; done) | (show chkGo _ _ _ _ _ = true; kernel_rfl)) | (simp [cloL, clo, catS, repl, ints_clo, encYs_clo, encR, encY, encS]; done) | skip)
  all_goals
    obtain rfl : rx = ((k + 1 : Nat) : Int) := by omega
    have e : ∀ x : List SV, chunks 6 0 (repl 0 x) ++ List.take ((k : Int) - 0).toNat (List.drop (Int.toNat 0) (encYs z.years)) ++ List.take (((encYs z.years).length : Int) - ((k + 1 : Nat) : Int)).toNat (List.drop ((k + 1 : Nat) : Int).toNat (encYs z.years)) = encYs (cutL k z.years) := fun x => by
      have q : (((encYs z.years).length : Int) - ((k + 1 : Nat) : Int)).toNat = (encYs z.years).length - (k + 1) := by omega
      rw [q, Int.toNat_natCast, List.take_of_length_le (l := List.drop (k + 1) (encYs z.years)) (by simp)]
      simp [chunks, cutL, encYs, List.map_take, List.map_drop]
    rw [e]
  · exact ⟨encYs_clo _⟩
  · rfl
end Go.Proofs.Ytelnonfenpjjcaa
