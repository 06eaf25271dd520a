/- ZoneRest: with a smaller rest no class is greater. -/
import Derived.Test.YtelnonfenpjjcaaZH2
import Derived.Test.YtelnonfenpjjcaaZq
set_option linter.unusedSimpArgs false
set_option linter.unusedVariables false
open Go Go.TV
namespace Go.Proofs.Ytelnonfenpjjcaa

/-- A rule with another rest. -/
def restO (r : Rule) (n : Int) : Rule := { r with rest := n }
theorem kind_rest (r : Rule) (n : Int) (y : Year) (l p : Int) : kind (restO r n) y l p = kind r y l p := rfl
theorem spotT_rest {r : Rule} {m n first : Int} (hm : 0 ≤ m) (hmn : m ≤ n) (hf : 0 ≤ first) (hc : 1 ≤ r.classes) (ys : List Year) (t : Truth) : ∀ k,
    (spotT (restO r m) first ys t k).class_ ≤ (spotT (restO r n) first ys t k).class_ ∧ (spotT (restO r m) first ys t k).since = min (spotT (restO r n) first ys t k).since m ∧ (spotT (restO r n) first ys t k).since ≤ n ∧ 0 ≤ (spotT (restO r n) first ys t k).since ∧ 0 ≤ (spotT (restO r n) first ys t k).class_
  | 0 => by simp only [spotT, restO]; omega
  | k + 1 => by
    have ih := spotT_rest (r := r) (first := first) hm hmn hf hc ys t k
    simp only [spotT]
    split
    · simp only [kind_rest]
      generalize kind r _ _ _ = K
      generalize spotT (restO r m) first ys t k = A at *
      generalize spotT (restO r n) first ys t k = B at *
      unfold move restO
      split
      · exact ih
      · dsimp only
        split <;> split <;> omega
      · dsimp only; omega
      · dsimp only; omega
    · exact ih
theorem spotT_zero {r : Rule} {first : Int} (hf : 0 ≤ first) (hc : 1 ≤ r.classes) (ys : List Year) (t : Truth) (k : Nat) : (spotT (restO r 0) first ys t k).since = 0 := by
  have := spotT_rest (r := r) (first := first) (Int.le_refl 0) (Int.le_refl 0) hf hc ys t k
  omega
theorem spotT_good {r : Rule} {first : Int} {ys : List Year} {t : Truth} {k : Nat} {y : Year} (hf : 0 ≤ first) (hc : 1 ≤ r.classes) (hy : ys[k]? = some y) (h : kind r y (t.losses.getD k 0) (t.premiums.getD k 0) = 1) :
    (spotT (restO r 0) first ys t (k + 1)).class_ = max ((spotT (restO r 0) first ys t k).class_ - 1) 0 := by
  rw [spotT_succ hy, kind_rest, h]
  show (if (restO r 0).rest ≤ _ then _ else _) = _
  rw [if_pos (by rw [spotT_zero hf hc]; show (0 : Int) ≤ 0; omega)]
theorem restO_self (r : Rule) : restO r r.rest = r := rfl
theorem fault_rest {r : Rule} {z : Zone} {n : Int} (h0 : fault r z = 0) (h : 0 ≤ n) (hn : n ≤ r.rest) : fault (restO r n) z = 0 := by
  have hr := (fault_okR h0).r2
  unfold fault at h0 ⊢
  split at h0
  · exact absurd h0 (by decide)
  · rename_i q
    rw [if_neg (show ¬ (6 < (restO r n).classes ∨ 6 < z.years.length) from q)]
    split at h0
    · rename_i q2
      rw [if_pos]
      refine ⟨?_, q2.2⟩
      have := q2.1
      unfold restO
      simp only [Rule.valid, within, Bool.and_eq_true, decide_eq_true_eq] at this ⊢
      obtain ⟨a1, a2, a3, a4, a5, a6, a7⟩ := this
      exact ⟨a1, a2, a3, a4, a5, ⟨h, by omega⟩, a7⟩
    · exact absurd h0 (by decide)
/-- Whether the document calls a year good. -/
theorem rkind_one {r : Rule} {y : Year} {l p : Int} (hg : r.good ≤ r.bad) (hp : 0 ≤ p) : rkind r y l p = 1 ↔ kind r y l p = 1 := by
  have := Int.mul_le_mul_of_nonneg_left hg hp
  unfold rkind kind
  split
  · simp
  · split
    · simp
    · split <;> simp
end Go.Proofs.Ytelnonfenpjjcaa
