/- ZoneSure: if no year is deciding, all lists of Reach have one class. -/
import Derived.Test.YtelnonfenpjjcaaZp
set_option linter.unusedSimpArgs false
set_option linter.unusedVariables false
open Go Go.TV
namespace Go.Proofs.Ytelnonfenpjjcaa

/-! ### Sorted lists of numbers -/
theorem filter_range_sorted (p : Nat → Bool) (n : Nat) : ((List.range n).filter p).Pairwise (· < ·) := List.Pairwise.filter _ List.pairwise_lt_range
theorem cast_sorted {l : List Nat} (h : l.Pairwise (· < ·)) : (l.map fun (c : Nat) => (c : Int)).Pairwise (· < ·) := List.Pairwise.map _ (fun a b h => Int.ofNat_lt.2 h) h
theorem classes_sorted (r : Rule) (ks : List Spot) : (classes r ks).Pairwise (· < ·) := cast_sorted (filter_range_sorted _ _)
theorem decUp_sorted (r : Rule) (ys : List Year) (n : Nat) : (decUp r ys n).Pairwise (· < ·) := cast_sorted (filter_range_sorted _ _)
theorem sorted_head {a : Int} {l : List Int} (h : (a :: l).Pairwise (· < ·)) {x : Int} (hx : x ∈ a :: l) : a ≤ x := by
  rcases List.mem_cons.1 hx with rfl | hx
  · omega
  · have := List.rel_of_pairwise_cons h hx
    omega
theorem mem_decUp {r : Rule} {ys : List Year} {n : Nat} {j : Nat} {y : Year} (hj : j < n) (hy : ys[j]? = some y) (h : 1 < (can r y false).length) : (j : Int) ∈ decUp r ys n := by
  simp only [decUp, List.mem_map, List.mem_filter, List.mem_range]
  exact ⟨j, ⟨hj, by rw [hy]; simpa using h⟩, rfl⟩
theorem decUp_nonneg {r : Rule} {ys : List Year} {n : Nat} {x : Int} (h : x ∈ decUp r ys n) : 0 ≤ x ∧ x < n := by
  simp only [decUp, List.mem_map, List.mem_filter, List.mem_range] at h
  obtain ⟨j, ⟨h1, _⟩, rfl⟩ := h
  omega

/-- No year before n can be of two kinds. -/
def Sure (r : Rule) (ys : List Year) (n : Nat) : Prop := ∀ (j : Nat) (y : Year), j < n → ys[j]? = some y → (can r y false).length ≤ 1
theorem can_one {r : Rule} {y : Year} (hy : OkY r y) (h : (can r y false).length ≤ 1) : ∃ k, can r y false = [k] := by
  obtain ⟨k, hk⟩ := can_ne hy false
  match hc : can r y false, h, hk with
  | [], _, hk => simp at hk
  | [a], _, _ => exact ⟨a, rfl⟩
  | _ :: _ :: _, h, _ => simp at h
theorem sure_reach {r : Rule} {z : Zone} (h : fault r z = 0) : ∀ n, n ≤ z.years.length → Sure r z.years n → ∃ x, ∀ s ∈ reach r z.first [] z.years n, s = x
  | 0, _, _ => ⟨_, fun s hs => by simpa [reach] using hs⟩
  | n + 1, hn, hs => by
    obtain ⟨x, hx⟩ := sure_reach h n (by omega) fun j y hj hy => hs j y (by omega) hy
    have hy : z.years[n]? = some z.years[n] := List.getElem?_eq_getElem (by omega)
    obtain ⟨k, hk⟩ := can_one (fault_okY h z.years[n] (List.getElem_mem _)) (hs n _ (by omega) hy)
    refine ⟨move r k x, fun s h1 => ?_⟩
    rw [reach_succ hy] at h1
    simp only [steps, List.mem_flatMap, List.mem_map, List.contains_nil, hk, List.mem_singleton] at h1
    obtain ⟨s0, h2, k', rfl, rfl⟩ := h1
    rw [hx s0 h2]
theorem sure_class {r : Rule} {z : Zone} (h : fault r z = 0) {n : Nat} (hn : n ≤ z.years.length) (hs : Sure r z.years n) : (classes r (reach r z.first [] z.years n)).length = 1 := by
  obtain ⟨x, hx⟩ := sure_reach h n hn hs
  have hpos := classes_ne h [] hn
  have hsort := classes_sorted r (reach r z.first [] z.years n)
  have hall : ∀ c ∈ classes r (reach r z.first [] z.years n), c = x.class_ := fun c hc => by
    obtain ⟨s, h1, h2⟩ := hasC_iff.1 (mem_classes.1 hc).2.2
    rw [← h2, hx s h1]
  match hc : classes r (reach r z.first [] z.years n), hpos, hsort, hall with
  | [], hp, _, _ => simp at hp
  | [a], _, _, _ => rfl
  | a :: b :: l, _, hso, hal =>
    have h1 := List.rel_of_pairwise_cons hso (List.mem_cons_self (a := b) (l := l))
    have h2 := hal a (by simp)
    have h3 := hal b (by simp)
    omega
theorem sure_moves {r : Rule} {z : Zone} (h : fault r z = 0) {n : Nat} (hn : n < z.years.length) (hs : Sure r z.years (n + 1)) (ht : movesAt r z.first [] z.years (n + 1) true = true) : movesAt r z.first [] z.years (n + 1) false = false := by
  obtain ⟨x, hx⟩ := sure_reach h n (by omega) fun j y hj hy => hs j y (by omega) hy
  have hy : z.years[n]? = some z.years[n] := List.getElem?_eq_getElem (by omega)
  obtain ⟨k, hk⟩ := can_one (fault_okY h z.years[n] (List.getElem_mem _)) (hs n _ (by omega) hy)
  rw [movesAt_succ hy] at ht ⊢
  simp only [moves, List.any_eq_true, List.contains_nil, hk, List.mem_singleton, beq_iff_eq] at ht
  obtain ⟨s, h1, k', rfl, h2⟩ := ht
  simp only [moves, List.contains_nil, hk]
  rw [List.any_eq_false]
  intro s' h3
  rw [hx s h1] at h2
  rw [hx s' h3]
  simp only [List.any_cons, List.any_nil, Bool.or_false, h2]
  simp

/-- Where the first deciding year lies. -/
def firstD (D : List Int) (n : Nat) : Int := match D with
  | [] => n
  | d :: _ => d
theorem firstD_sure {r : Rule} {ys : List Year} {k : Nat} (h : (k : Int) < firstD (decUp r ys ys.length) ys.length) : Sure r ys (k + 1) := by
  intro j y hj hy
  rcases Nat.lt_or_ge 1 (can r y false).length with h1 | h1
  · exfalso
    have hjl := (List.getElem?_eq_some_iff.1 hy).1
    have hm := mem_decUp hjl hy h1
    have hs := decUp_sorted r ys ys.length
    cases hd : decUp r ys ys.length with
    | nil => rw [hd] at hm; simp at hm
    | cons d l =>
      rw [hd] at hm hs h
      have := sorted_head hs hm
      simp only [firstD] at h
      omega
  · exact h1
end Go.Proofs.Ytelnonfenpjjcaa
