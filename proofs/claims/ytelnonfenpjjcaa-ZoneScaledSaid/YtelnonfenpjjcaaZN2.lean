/- ZoneScaled: with all losses and premiums multiplied the classes stay. -/
import Derived.Test.YtelnonfenpjjcaaZH2
import Derived.Test.YtelnonfenpjjcaaZj
set_option linter.unusedSimpArgs false
set_option linter.unusedVariables false
open Go Go.TV
namespace Go.Proofs.Ytelnonfenpjjcaa

/-- A year whose ranges are the one numbers of a truth. -/
def ptY (t : Truth) (i : Nat) (y : Year) : Year := ⟨⟨t.losses.getD i 0, t.losses.getD i 0⟩, ⟨t.premiums.getD i 0, t.premiums.getD i 0⟩, y.parcels, y.exempt⟩
/-- The first k years so. -/
def ptUp (t : Truth) (ys : List Year) (k : Nat) : List Year := ys.mapIdx fun i y => if i < k then ptY t i y else y
def ptZ (z : Zone) (t : Truth) : Zone := { z with years := ptUp t z.years z.years.length }
def mulT (n : Int) (t : Truth) : Truth := ⟨t.losses.map (n * ·), t.premiums.map (n * ·)⟩

theorem ptUp_zero (t : Truth) (ys : List Year) : ptUp t ys 0 = ys := by
  apply List.ext_getElem? ; intro i; simp [ptUp, List.getElem?_mapIdx]
theorem ptUp_len (t : Truth) (ys : List Year) (k : Nat) : (ptUp t ys k).length = ys.length := by simp [ptUp]
theorem ptUp_at {t : Truth} {ys : List Year} {k i : Nat} {y : Year} (h : ys[i]? = some y) : (ptUp t ys k)[i]? = some (if i < k then ptY t i y else y) := by
  simp [ptUp, List.getElem?_mapIdx, h]
theorem ptUp_same {t : Truth} {ys : List Year} {k : Nat} {y : Year} (h : ys[k]? = some y) : (ptUp t ys k)[k]? = some y := by
  rw [ptUp_at h, if_neg (by omega)]
theorem ptUp_set {t : Truth} {ys : List Year} {k : Nat} {y : Year} (h : ys[k]? = some y) : (ptUp t ys k).set k (ptY t k y) = ptUp t ys (k + 1) := by
  have hk := (List.getElem?_eq_some_iff.1 h).1
  apply List.ext_getElem?
  intro i
  rw [List.getElem?_set]
  split
  · rename_i e; subst e
    rw [if_pos (by rw [ptUp_len]; exact hk), ptUp_at h, if_pos (by omega)]
  · simp only [ptUp, List.getElem?_mapIdx]
    congr 1; funext y'
    have : i < k ↔ i < k + 1 := by omega
    simp only [this]
theorem encYs_set (l : List Year) (k : Nat) (y : Year) : (encYs l).set k (encY y) = encYs (l.set k y) := by simp [encYs, List.map_set]

theorem kind_pt (r : Rule) (s : Truth) (i : Nat) (y : Year) (a b : Int) : kind r (ptY s i y) a b = kind r y a b := rfl
theorem spotT_pt (r : Rule) (first : Int) (ys : List Year) (s t : Truth) : ∀ k, spotT r first (ptUp s ys ys.length) t k = spotT r first ys t k
  | 0 => rfl
  | k + 1 => by
    simp only [spotT]
    rcases h : ys[k]? with _ | y
    · have : (ptUp s ys ys.length)[k]? = none := by simp [ptUp, List.getElem?_mapIdx, h]
      simp only [this]; exact spotT_pt r first ys s t k
    · have hk := (List.getElem?_eq_some_iff.1 h).1
      have := ptUp_at (t := s) (k := ys.length) h
      rw [if_pos hk] at this
      simp only [this, kind_pt]; rw [spotT_pt r first ys s t k]
theorem getD_mul (n : Int) (l : List Int) (i : Nat) : (l.map (n * ·)).getD i 0 = n * l.getD i 0 := by
  simp only [List.getD_eq_getElem?_getD, List.getElem?_map]
  cases l[i]? <;> simp
theorem kind_mul {r : Rule} {y : Year} {a b n : Int} (hn : 0 < n) : kind r y (n * a) (n * b) = kind r y a b := by
  unfold kind
  have e1 : n * a * 100 < n * b * r.good ↔ a * 100 < b * r.good := by
    rw [Int.mul_assoc, Int.mul_assoc]; exact ⟨fun h => Int.lt_of_mul_lt_mul_left h (by omega), fun h => Int.mul_lt_mul_of_pos_left h hn⟩
  have e2 : n * b * r.bad < n * a * 100 ↔ b * r.bad < a * 100 := by
    rw [Int.mul_assoc, Int.mul_assoc]; exact ⟨fun h => Int.lt_of_mul_lt_mul_left h (by omega), fun h => Int.mul_lt_mul_of_pos_left h hn⟩
  simp only [e1, e2]
theorem spotT_mul {r : Rule} {first n : Int} (hn : 0 < n) (ys : List Year) (t : Truth) : ∀ k, spotT r first ys (mulT n t) k = spotT r first ys t k
  | 0 => rfl
  | k + 1 => by
    simp only [spotT]
    rw [spotT_mul hn ys t k]
    simp only [mulT, getD_mul, kind_mul hn]
theorem playT_pt (r : Rule) (z : Zone) (s t : Truth) (m : Nat) : playT r (ptZ z s) t m = playT r z t m := by
  simp only [playT, ptZ, spotT_pt]
theorem playT_mul {r : Rule} {z : Zone} {n : Int} (hn : 0 < n) (t : Truth) (m : Nat) : playT r z (mulT n t) m = playT r z t m := by
  simp only [playT, spotT_mul hn]
theorem isTruth_pt {z : Zone} {s : Truth} (h1 : s.losses.length = z.years.length) (h2 : s.premiums.length = z.years.length) : isTruth (ptZ z s) s = true := by
  simp only [isTruth, Bool.and_eq_true, decide_eq_true_eq, List.all_eq_true, List.mem_range]
  have hl : (ptZ z s).years.length = z.years.length := ptUp_len ..
  refine ⟨by omega, by omega, fun i hi => ?_⟩
  have hy : z.years[i]? = some (z.years[i]'(by omega)) := List.getElem?_eq_getElem (by omega)
  have := ptUp_at (t := s) (k := z.years.length) hy
  rw [if_pos (by omega)] at this
  rw [show (ptZ z s).years = ptUp s z.years z.years.length from rfl, this]
  simp [ptY, Rng.has, within]
theorem fault_pt {r : Rule} {z : Zone} {t : Truth} (h0 : fault r z = 0) (ht : isTruth z t = true) : fault r (ptZ z t) = 0 := by
  obtain ⟨h1, h2, h3, h4⟩ := fault_valid h0
  have hl := fault_len h0
  have hl' : (ptZ z t).years.length = z.years.length := ptUp_len ..
  unfold fault
  rw [if_neg (by omega), if_pos]
  refine ⟨h1, h2, List.all_eq_true.2 fun y hy => ?_⟩
  obtain ⟨i, hi, rfl⟩ := List.getElem_of_mem hy
  have hi' : i < z.years.length := by omega
  have hy : z.years[i]? = some z.years[i] := List.getElem?_eq_getElem hi'
  have hp := ptUp_at (t := t) (k := z.years.length) hy
  rw [if_pos hi'] at hp
  have e : (ptZ z t).years[i] = ptY t i z.years[i] := by
    have h2 : (ptZ z t).years[i]? = some (ptY t i z.years[i]) := hp
    rw [List.getElem?_eq_getElem hi] at h2
    exact Option.some.inj h2
  rw [e]
  obtain ⟨a, b, ha, hb, q1, q2, q3, q4⟩ := isTruth_at ht hy
  have hv := h3 _ (List.mem_of_getElem? hy)
  simp only [Year.valid, Rng.pence, Bool.and_eq_true, decide_eq_true_eq, ptY, List.getD_eq_getElem?_getD, ha, hb, Option.getD_some] at hv ⊢
  refine ⟨?_, ?_, hv.2.2⟩ <;> omega
theorem can_pt (r : Rule) (t : Truth) (i : Nat) (y : Year) : (can r (ptY t i y) false).length ≤ 1 := by
  have e : ∀ a : Int, every ⟨a, a⟩ = [a] := fun a => by
    simp only [every, show (a - a + 1).toNat = 1 by omega]; simp [List.range_succ]
  have hs : ∀ k, seen r (ptY t i y) false k = (kind r (ptY t i y) (t.losses.getD i 0) (t.premiums.getD i 0) == k) := fun k => by
    simp only [seen, ptY, e]; simp
  have hk := kind_le r (ptY t i y) (t.losses.getD i 0) (t.premiums.getD i 0)
  simp only [can, funext hs]
  generalize kind r (ptY t i y) _ _ = K at *
  match K, hk with
  | 0, _ => exact (by decide)
  | 1, _ => exact (by decide)
  | 2, _ => exact (by decide)
  | 3, _ => exact (by decide)
theorem decR_pt {r : Rule} {z : Zone} {t : Truth} (h : fault r (ptZ z t) = 0) : decR r (ptZ z t) = ([], 0) := by
  unfold decR
  rw [if_neg (by simpa using h)]
  congr 1
  simp only [decUp, List.map_eq_nil_iff, List.filter_eq_nil_iff, List.mem_range]
  intro i hi
  have hl' : (ptZ z t).years.length = z.years.length := ptUp_len ..
  have hi' : i < z.years.length := by omega
  have hy : z.years[i]? = some z.years[i] := List.getElem?_eq_getElem hi'
  have hp := ptUp_at (t := t) (k := z.years.length) hy
  rw [if_pos hi'] at hp
  rw [show (ptZ z t).years = ptUp t z.years z.years.length from rfl, hp]
  have := can_pt r t i z.years[i]
  simp; omega
/-- The lists of a truth, one number more. -/
theorem mulT_snoc {n : Int} {l : List Int} {k : Nat} {a : Int} (h : l[k]? = some a) : (l.map (n * ·)).take (k + 1) = (l.map (n * ·)).take k ++ [n * a] := by
  rw [List.take_add_one]; simp [h]
end Go.Proofs.Ytelnonfenpjjcaa
