/- The calls for a need. -/
import Derived.Test.YthnaamkempmjkaaKi
set_option linter.unusedSimpArgs false
set_option linter.unusedVariables false
open Go Go.TV
namespace Go.Proofs.Ythnaamkempmjkaa

section
variable {ms : List Mem} {f : Nat → Bool} {need : Int}
theorem quo_nnK (hm : ∀ m ∈ ms, OkM m) (h0 : 0 ≤ need) {U : Int} (hU : 0 ≤ U) (i : Nat) : 0 ≤ quo ms need U i := Int.ediv_nonneg (Int.mul_nonneg h0 (un_nn hm i).1) hU
theorem leftF_anti (hm : ∀ m ∈ ms, OkM m) (h0 : 0 ≤ need) {U : Int} (hU : 0 ≤ U) (j : Nat) : ∀ k, leftF ms f need U (j + k) ≤ leftF ms f need U j
  | 0 => Int.le_refl _
  | k + 1 => by
    have ih := leftF_anti hm h0 hU j k
    have q := quo_nnK hm h0 hU (j + k)
    have e : leftF ms f need U (j + (k + 1)) = leftF ms f need U (j + k) - (if f (j + k) = true then quo ms need U (j + k) else 0) := rfl
    rw [e]
    split <;> omega
theorem leftF_mul {U : Int} (hU : 0 < U) : ∀ k, need * (U - unitsF ms f k) ≤ U * leftF ms f need U k
  | 0 => by simp only [unitsF, leftF, Int.sub_zero]; rw [Int.mul_comm]; exact Int.le_refl _
  | k + 1 => by
    have ih := leftF_mul hU k
    simp only [unitsF, leftF]
    split
    · have h1 : U * quo ms need U k ≤ need * un ms k := by
        unfold quo; exact Int.mul_ediv_self_le (by omega)
      have e1 : need * (U - (unitsF ms f k + un ms k)) = need * (U - unitsF ms f k) - need * un ms k := by rw [← Int.mul_sub]; congr 1; omega
      have e2 : U * (leftF ms f need U k - quo ms need U k) = U * leftF ms f need U k - U * quo ms need U k := Int.mul_sub ..
      rw [e1, e2]; omega
    · simpa using ih
theorem leftF_nn (hU : 0 < unitsF ms f ms.length) : 0 ≤ leftF ms f need (unitsF ms f ms.length) ms.length := by
  have h := leftF_mul (ms := ms) (f := f) (need := need) hU ms.length
  rw [Int.sub_self, Int.mul_zero] at h
  exact Int.le_of_mul_le_mul_left (a := unitsF ms f ms.length) (by rw [Int.mul_zero]; exact h) hU
theorem cap_quo {i : Nat} (h : capF ms f need i = true) : i < ms.length ∧ f i = true ∧ mst ms i ≤ quo ms need (unitsF ms f ms.length) i := by
  simp only [capF, Bool.and_eq_true, decide_eq_true_eq] at h
  obtain ⟨h1, h2, h3⟩ := h
  refine ⟨h1, h2, ?_⟩
  unfold shareF at h3
  rw [if_pos ⟨h1, h2⟩] at h3
  split at h3 <;> omega
theorem mst_nn (hm : ∀ m ∈ ms, OkM m) (i : Nat) : 0 ≤ mst ms i ∧ mst ms i ≤ 100000 := by
  unfold mst
  cases hi : ms[i]? with
  | none => simp
  | some m => have := (hm m (List.mem_of_getElem? hi)).2.2; simp only; omega
theorem needF_ok (hm : ∀ m ∈ ms, OkM m) (h0 : 0 ≤ need) : ∀ k, k ≤ ms.length → leftF ms f need (unitsF ms f ms.length) k ≤ needF ms (capF ms f need) need k ∧ needF ms (capF ms f need) need k ≤ need
  | 0, _ => by simp [leftF, needF]
  | k + 1, hk => by
    have ih := needF_ok hm h0 k (by omega)
    have hU := (unitsF_le hm f ms.length).1
    have q := quo_nnK (need := need) hm h0 hU k
    have mm := mst_nn hm k
    simp only [leftF, needF]
    by_cases hc : capF ms f need k = true
    · have := cap_quo hc
      rw [if_pos hc, if_pos this.2.1]
      omega
    · rw [if_neg hc]
      split <;> omega
end
theorem capF_of {ms : List Mem} {f : Nat → Bool} {need : Int} {k : Nat} (hk : k < ms.length) (hf : f k = true) : capF ms f need k = decide (mst ms k < shareF ms f need k) := by simp [capF, hk, hf]
theorem capF_no {ms : List Mem} {f : Nat → Bool} {need : Int} {k : Nat} (hf : f k = false) : capF ms f need k = false := by simp [capF, hf]
theorem capU_0 {ms : List Mem} {f : Nat → Bool} {need : Int} (i : Nat) : f i = capU ms f need 0 i := by simp [capU]
theorem capU_other {ms : List Mem} {f : Nat → Bool} {need : Int} {k i : Nat} (h : i ≠ k) : capU ms f need k i = capU ms f need (k + 1) i := by
  unfold capU
  have : i < k ↔ i < k + 1 := by omega
  simp only [this]
theorem capU_at {ms : List Mem} {f : Nat → Bool} {need : Int} {k : Nat} (h : capF ms f need k = true) : false = capU ms f need (k + 1) k := by
  simp [capU, h]
theorem capU_not {ms : List Mem} {f : Nat → Bool} {need : Int} {k : Nat} (h : capF ms f need k = false) (i : Nat) : capU ms f need k i = capU ms f need (k + 1) i := by
  by_cases e : i = k
  · subst e; simp [capU, h]
  · exact capU_other e
theorem capU_n {ms : List Mem} {f : Nat → Bool} {need : Int} (i : Nat) : capU ms f need ms.length i = (f i && !capF ms f need i) := by
  unfold capU capF
  by_cases h : i < ms.length <;> simp [h]
theorem tab_len (n : Nat) (o : Nat → Int) : (tab n o).length = n := by simp [tab]
theorem tab_set {n k : Nat} (o : Nat → Int) {o' : Nat → Int} {v : Int} (h1 : v = o' k) (h2 : ∀ i, i ≠ k → o i = o' i) : (ints (tab n o)).set k (.int .i64 v) = ints (tab n o') := by
  apply List.ext_getElem?
  intro i
  rw [List.getElem?_set]
  simp only [ints, tab, List.map_map, List.length_map, List.length_range, List.getElem?_map]
  by_cases e : k = i
  · subst e
    rw [if_pos rfl]
    by_cases hk : k < n
    · rw [if_pos hk, List.getElem?_range hk]; simp [h1]
    · rw [if_neg hk, List.getElem?_eq_none (by simp; omega)]; rfl
  · rw [if_neg e]
    by_cases hi : i < n
    · rw [List.getElem?_range hi]; simp [h2 i (fun h => e h.symm)]
    · rw [List.getElem?_eq_none (by simp; omega)]; rfl
theorem tab_congr {n : Nat} {o o' : Nat → Int} (h : ∀ i, i < n → o i = o' i) : tab n o = tab n o' := List.map_congr_left fun i hi => h i (List.mem_range.1 hi)
theorem cntB_lt {f c : Nat → Bool} (h : any5 c = true) (hc : ∀ i, c i = true → f i = true) : cntB (fun i => f i && !c i) < cntB f := by
  simp only [any5, Bool.or_eq_true] at h
  unfold cntB
  have h0 := hc 0; have h1 := hc 1; have h2 := hc 2; have h3 := hc 3; have h4 := hc 4
  cases e0 : c 0 <;> cases e1 : c 1 <;> cases e2 : c 2 <;> cases e3 : c 3 <;> cases e4 : c 4 <;> simp_all <;> omega
end Go.Proofs.Ythnaamkempmjkaa
