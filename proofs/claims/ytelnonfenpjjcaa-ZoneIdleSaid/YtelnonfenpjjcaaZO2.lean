/- ZoneIdle: a year that does not count changes no class. -/
import Derived.Test.YtelnonfenpjjcaaZH2
import Derived.Test.YtelnonfenpjjcaaZt
set_option linter.unusedSimpArgs false
set_option linter.unusedVariables false
open Go Go.TV
namespace Go.Proofs.Ytelnonfenpjjcaa

/-- A list without one element. -/
def cutL {α : Type} (k : Nat) (l : List α) : List α := l.take k ++ l.drop (k + 1)
theorem cutL_at {α : Type} (k : Nat) (l : List α) (i : Nat) : (cutL k l)[i]? = if i < k then l[i]? else l[i + 1]? := by
  unfold cutL; rw [← List.eraseIdx_eq_take_drop_succ, List.getElem?_eraseIdx]
theorem cutL_len {α : Type} {k : Nat} {l : List α} (h : k < l.length) : (cutL k l).length = l.length - 1 := by
  unfold cutL; rw [← List.eraseIdx_eq_take_drop_succ, List.length_eraseIdx_of_lt h]
def exZ (z : Zone) (k : Nat) (y : Year) : Zone := ⟨z.first, z.years.set k { y with exempt := true }⟩
def cutY (z : Zone) (k : Nat) : Zone := ⟨z.first, cutL k z.years⟩
def cutT (t : Truth) (k : Nat) : Truth := ⟨cutL k t.losses, cutL k t.premiums⟩

theorem exZ_fault {r : Rule} {z : Zone} {k : Nat} {y : Year} (h0 : fault r z = 0) (hy : z.years[k]? = some y) : fault r (exZ z k y) = 0 := by
  obtain ⟨h1, h2, h3, h4⟩ := fault_valid h0
  have hl := fault_len h0
  have hl' : (exZ z k y).years.length = z.years.length := List.length_set ..
  unfold fault
  rw [if_neg (by omega), if_pos]
  refine ⟨h1, h2, List.all_eq_true.2 fun u hu => ?_⟩
  rcases List.mem_or_eq_of_mem_set hu with h | rfl
  · exact h3 u h
  · exact h3 y (List.mem_of_getElem? hy)
theorem cutY_fault {r : Rule} {z : Zone} {k : Nat} (h0 : fault r z = 0) (hk : k < z.years.length) : fault r (cutY z k) = 0 := by
  obtain ⟨h1, h2, h3, h4⟩ := fault_valid h0
  have hl := fault_len h0
  have hl' : (cutY z k).years.length = z.years.length - 1 := cutL_len hk
  unfold fault
  rw [if_neg (by omega), if_pos]
  refine ⟨h1, h2, List.all_eq_true.2 fun u hu => h3 u ?_⟩
  simp only [cutY, cutL, List.mem_append] at hu
  exact hu.elim List.mem_of_mem_take List.mem_of_mem_drop
theorem cut_truth {z : Zone} {t : Truth} {k : Nat} (ht : isTruth z t = true) (hk : k < z.years.length) : isTruth (cutY z k) (cutT t k) = true := by
  have hl' : (cutY z k).years.length = z.years.length - 1 := cutL_len hk
  have hl : t.losses.length = z.years.length ∧ t.premiums.length = z.years.length := by
    have ht' := ht
    simp only [isTruth, Bool.and_eq_true, decide_eq_true_eq] at ht'
    exact ⟨ht'.1, ht'.2.1⟩
  have hl1 : (cutT t k).losses.length = t.losses.length - 1 := cutL_len (by omega)
  have hl2 : (cutT t k).premiums.length = t.premiums.length - 1 := cutL_len (by omega)
  simp only [isTruth, Bool.and_eq_true, decide_eq_true_eq, List.all_eq_true, List.mem_range]
  refine ⟨by omega, by omega, fun i hi => ?_⟩
  have hat : ∀ j, j < z.years.length → (match z.years[j]? with | some y => y.l.has (t.losses.getD j 0) && y.p.has (t.premiums.getD j 0) | none => true) = true := fun j hj => by
    obtain ⟨a, b, ha, hb, q1, q2, q3, q4⟩ := isTruth_at ht (List.getElem?_eq_getElem hj)
    rw [List.getElem?_eq_getElem hj]
    simp only [List.getD_eq_getElem?_getD, ha, hb, Option.getD_some, Rng.has, within, Bool.and_eq_true, decide_eq_true_eq]
    omega
  simp only [cutY, cutT, List.getD_eq_getElem?_getD, cutL_at]
  simp only [List.getD_eq_getElem?_getD] at hat
  rcases Nat.lt_or_ge i k with h | h
  · simp only [if_pos h]; exact hat i (by omega)
  · simp only [if_neg (show ¬ i < k by omega)]; exact hat (i + 1) (by omega)

/-- The year k of a zone does not count. -/
def Idle (r : Rule) (z : Zone) (k : Nat) : Prop := ∃ y, z.years[k]? = some y ∧ y.exempt = true
theorem kind_idle {r : Rule} {y : Year} (h : y.exempt = true) (a b : Int) : kind r y a b = 0 := by unfold kind; rw [if_pos (.inl h)]
theorem spotT_low (r : Rule) (first : Int) (ys : List Year) (t : Truth) (k : Nat) : ∀ i, i ≤ k → spotT r first (cutL k ys) (cutT t k) i = spotT r first ys t i
  | 0, _ => rfl
  | i + 1, hi => by
    simp only [spotT, cutT, List.getD_eq_getElem?_getD, cutL_at, if_pos (show i < k by omega)]
    rw [show (⟨cutL k t.losses, cutL k t.premiums⟩ : Truth) = cutT t k from rfl, spotT_low r first ys t k i (by omega)]
theorem spotT_high {r : Rule} {first : Int} {ys : List Year} {t : Truth} {k : Nat} {y : Year} (hy : ys[k]? = some y) (he : y.exempt = true) : ∀ i, k ≤ i → spotT r first (cutL k ys) (cutT t k) i = spotT r first ys t (i + 1)
  | 0, h => by
    obtain rfl : k = 0 := by omega
    rw [spotT_succ hy, kind_idle he]; rfl
  | i + 1, h => by
    rcases Nat.lt_or_ge i k with hi | hi
    · obtain rfl : k = i + 1 := by omega
      rw [spotT_low r first ys t (i + 1) (i + 1) (Nat.le_refl _), spotT_succ hy, kind_idle he]; rfl
    · have ih := spotT_high (r := r) (first := first) (t := t) hy he i hi
      rw [show spotT r first ys t (i + 1 + 1) = match ys[i + 1]? with
        | some y => move r (kind r y (t.losses.getD (i + 1) 0) (t.premiums.getD (i + 1) 0)) (spotT r first ys t (i + 1))
        | none => spotT r first ys t (i + 1) from rfl, ← ih]
      simp only [spotT, List.getD_eq_getElem?_getD]
      simp only [cutT, cutL_at, if_neg (show ¬ i < k by omega)]
      rcases ys[i + 1]? <;> rfl
theorem playT_cut {r : Rule} {z : Zone} {t : Truth} {k : Nat} {y : Year} (hy : z.years[k]? = some y) (he : y.exempt = true) : playT r (cutY z k) (cutT t k) (cutY z k).years.length = cutL k (playT r z t z.years.length) := by
  have hk := (List.getElem?_eq_some_iff.1 hy).1
  have hl' : (cutY z k).years.length = z.years.length - 1 := cutL_len hk
  apply List.ext_getElem?
  intro i
  rw [cutL_at, hl']
  simp only [playT, List.getElem?_map]
  rcases Nat.lt_or_ge i (z.years.length - 1) with hi | hi
  · rw [List.getElem?_range hi]
    split
    · rw [List.getElem?_range (by omega)]
      simp only [Option.map_some, cutY]
      rw [spotT_low r z.first z.years t k (i + 1) (by omega)]
    · rw [List.getElem?_range (by omega)]
      simp only [Option.map_some, cutY]
      rw [spotT_high hy he (i + 1) (by omega)]
  · rw [List.getElem?_eq_none (by simp; omega)]
    split
    · omega
    · rw [List.getElem?_eq_none (by simp; omega)]; rfl
theorem every_pos {g : Rng} (h : g.lo ≤ g.hi) : every g ≠ [] := by
  intro e
  obtain ⟨x, hx⟩ := every_ne h
  rw [e] at hx; cases hx
theorem can_idle {r : Rule} {y : Year} (h : OkY r y) (he : y.exempt = true) : can r y false = [0] := by
  have hs : ∀ k, seen r y false k = decide (k = 0) := fun k => by
    simp only [seen, Bool.false_eq_true, false_and, if_false, kind_idle he]
    rw [Bool.eq_iff_iff]
    simp only [List.any_eq_true, decide_eq_true_eq, beq_iff_eq]
    constructor
    · rintro ⟨_, _, _, _, h⟩; exact h.symm
    · intro hk
      obtain ⟨a, ha⟩ := every_ne h.l2
      obtain ⟨b, hb⟩ := every_ne h.p2
      exact ⟨a, ha, b, hb, hk.symm⟩
  simp only [can, funext hs]; decide
theorem steps_idle {r : Rule} {y : Year} (h : OkY r y) (he : y.exempt = true) (xs : List Spot) : steps r y false xs = xs := by
  simp only [steps, can_idle h he]
  induction xs with
  | nil => rfl
  | cons x xs ih => simp only [List.flatMap_cons, ih]; rfl
theorem reach_low (r : Rule) (first : Int) (ys : List Year) (k : Nat) : ∀ i, i ≤ k → reach r first [] (cutL k ys) i = reach r first [] ys i
  | 0, _ => rfl
  | i + 1, hi => by
    simp only [reach, cutL_at, if_pos (show i < k by omega)]
    rw [reach_low r first ys k i (by omega)]
theorem reach_high {r : Rule} {first : Int} {ys : List Year} {k : Nat} {y : Year} (hy : ys[k]? = some y) (ho : OkY r y) (he : y.exempt = true) : ∀ i, k ≤ i → reach r first [] (cutL k ys) i = reach r first [] ys (i + 1)
  | 0, h => by
    obtain rfl : k = 0 := by omega
    rw [reach_succ hy]
    simp only [List.contains_nil, steps_idle ho he]
    try rfl
  | i + 1, h => by
    rcases Nat.lt_or_ge i k with hi | hi
    · obtain rfl : k = i + 1 := by omega
      rw [reach_low r first ys (i + 1) (i + 1) (Nat.le_refl _), reach_succ hy]
      simp only [List.contains_nil, steps_idle ho he]
    · have ih := reach_high (r := r) (first := first) hy ho he i hi
      rw [show reach r first [] ys (i + 1 + 1) = match ys[i + 1]? with
        | some y => steps r y (List.contains [] ((i + 1 : Nat) : Int)) (reach r first [] ys (i + 1))
        | none => [] from rfl, ← ih]
      simp only [reach]
      simp only [cutL_at, if_neg (show ¬ i < k by omega), List.contains_nil]
      rcases ys[i + 1]? <;> rfl
theorem nextR_cut {r : Rule} {z : Zone} {k : Nat} {y : Year} (h0 : fault r z = 0) (hy : z.years[k]? = some y) (he : y.exempt = true) : nextR r (cutY z k) = nextR r z := by
  have hk := (List.getElem?_eq_some_iff.1 hy).1
  have hl' : (cutY z k).years.length = z.years.length - 1 := cutL_len hk
  unfold nextR
  rw [if_neg (by simpa using cutY_fault h0 hk), if_neg (by simpa using h0), hl']
  have e : reach r (cutY z k).first [] (cutY z k).years (z.years.length - 1) = reach r z.first [] z.years z.years.length := by
    have := reach_high (r := r) (first := z.first) hy (fault_okY h0 _ (List.mem_of_getElem? hy)) he (z.years.length - 1) (by omega)
    rw [show z.years.length - 1 + 1 = z.years.length by omega] at this
    exact this
  rw [e]
theorem movesR_idle {r : Rule} {z : Zone} {k : Nat} {y : Year} (h0 : fault r z = 0) (hy : z.years[k]? = some y) (he : y.exempt = true) : movesR r z k = (2, 0) := by
  have hk := (List.getElem?_eq_some_iff.1 hy).1
  rw [movesR_good (fy_ok h0 hk), if_neg]
  rw [movesAt_succ hy]
  simp only [moves, List.contains_nil, can_idle (fault_okY h0 _ (List.mem_of_getElem? hy)) he]
  simp [move]
theorem spotT_idle {r : Rule} {first : Int} {ys : List Year} {t : Truth} {k : Nat} {y : Year} (hy : ys[k]? = some y) (he : y.exempt = true) : spotT r first ys t (k + 1) = spotT r first ys t k := by
  rw [spotT_succ hy, kind_idle he]; rfl
theorem playR_good {r : Rule} {z : Zone} {t : Truth} (h : fault r z = 0) (ht : isTruth z t = true) : playR r z t = (playT r z t z.years.length, 0) := by
  unfold playR; rw [if_neg (by simpa using h), if_pos ht]
theorem playT_at {r : Rule} {z : Zone} {t : Truth} {n i : Nat} (h : i < n) : (playT r z t n)[i]? = some (spotT r z.first z.years t (i + 1)).class_ := by
  simp [playT, List.getElem?_map, List.getElem?_range h]
end Go.Proofs.Ytelnonfenpjjcaa
