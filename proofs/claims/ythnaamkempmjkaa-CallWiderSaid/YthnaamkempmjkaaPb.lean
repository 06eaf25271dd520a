/- Calls in plain Lean: what all members pay, and what is short. -/
import Derived.Test.YthnaamkempmjkaaPa
set_option linter.unusedSimpArgs false
set_option linter.unusedVariables false
namespace Go.Proofs.Ythnaamkempmjkaa

def OkMs (ms : List Mem) : Prop := ms.length ≤ 5 ∧ ∀ i, i < ms.length → 1 ≤ un ms i ∧ 0 ≤ mst ms i
theorem any5_false {f : Nat → Bool} (h : any5 f = false) : ∀ i, i < 5 → f i = false := by
  intro i hi
  simp only [any5, Bool.or_eq_false_iff] at h
  have : i = 0 ∨ i = 1 ∨ i = 2 ∨ i = 3 ∨ i = 4 := by omega
  rcases this with rfl | rfl | rfl | rfl | rfl
  · exact h.1
  · exact h.2.1
  · exact h.2.2.1
  · exact h.2.2.2.1
  · exact h.2.2.2.2
theorem any5_true {f : Nat → Bool} (h : ¬ any5 f = false) : ∃ i, i < 5 ∧ f i = true := by
  simp only [any5, Bool.or_eq_false_iff] at h
  by_cases h0 : f 0 = true
  · exact ⟨0, by omega, h0⟩
  by_cases h1 : f 1 = true
  · exact ⟨1, by omega, h1⟩
  by_cases h2 : f 2 = true
  · exact ⟨2, by omega, h2⟩
  by_cases h3 : f 3 = true
  · exact ⟨3, by omega, h3⟩
  by_cases h4 : f 4 = true
  · exact ⟨4, by omega, h4⟩
  simp_all
theorem any5_eq {f : Nat → Bool} {i : Nat} (hi : i < 5) (h : f i = true) : ¬ any5 f = false := fun e => by have := any5_false e i hi; rw [h] at this; cases this
theorem sumF_pos {g : Nat → Int} : ∀ {n i : Nat}, (∀ k, k < n → 0 ≤ g k) → i < n → g i ≤ sumF g n
  | n + 1, i, h, hi => by
    have h0 : ∀ m, m ≤ n → 0 ≤ sumF g m := fun m hm => by
      have := sumF_le (g := fun _ => 0) (h := g) (n := m) fun k hk => h k (by omega)
      rw [sumF_zero fun _ _ => rfl] at this; exact this
    simp only [sumF]
    rcases Nat.lt_or_ge i n with h' | h'
    · have := sumF_pos (g := g) (n := n) (i := i) (fun k hk => h k (by omega)) h'
      have := h n (by omega); omega
    · have : i = n := by omega
      subst this; have := h0 i (by omega); omega
theorem OkMs.units {ms : List Mem} (h : OkMs ms) {f : Nat → Bool} {i : Nat} (hi : i < ms.length) (hf : f i = true) : un ms i ≤ unitsF ms f ms.length ∧ 1 ≤ unitsF ms f ms.length := by
  have h1 := sumF_pos (g := fun i => if f i = true then un ms i else 0) (n := ms.length) (i := i) (fun k hk => by have := h.2 k hk; split <;> omega) hi
  rw [← unitsF_sum] at h1
  simp only [hf, if_true] at h1
  have := h.2 i hi
  omega
theorem quo_nn {ms : List Mem} {need U : Int} {i : Nat} (hn : 0 ≤ need) (hU : 1 ≤ U) (hu : 0 ≤ un ms i) : 0 ≤ quo ms need U i :=
  Int.ediv_nonneg (Int.mul_nonneg hn hu) (by omega)
theorem shareF_nn {ms : List Mem} (h : OkMs ms) {f : Nat → Bool} {need : Int} (hn : 0 ≤ need) (i : Nat) : 0 ≤ shareF ms f need i := by
  unfold shareF
  split
  · rename_i hi
    have h1 := h.units hi.1 hi.2
    have h2 := quo_nn (ms := ms) (i := i) hn h1.2 (by have := h.2 i hi.1; omega)
    split <;> omega
  · omega
/-- What is paid and what is short, from some state on. -/
structure Paid (ms : List Mem) (f : Nat → Bool) (need : Int) (o : Nat → Int) (r : (Nat → Int) × Int) : Prop where
  other : ∀ i, f i = false → r.1 i = o i
  most : ∀ i, f i = true → 0 ≤ r.1 i ∧ r.1 i ≤ mst ms i
  sum : r.2 + sumF (fun i => if f i = true then r.1 i else 0) ms.length = need
  nn : 0 ≤ r.2
  short : 0 < r.2 → ∀ i, f i = true → r.1 i = mst ms i
theorem capF_t {ms : List Mem} {f : Nat → Bool} {need : Int} {i : Nat} : capF ms f need i = true ↔ i < ms.length ∧ f i = true ∧ mst ms i < shareF ms f need i := by simp [capF]
theorem needF_nn {ms : List Mem} (h : OkMs ms) {f : Nat → Bool} {need : Int} (hn : 0 ≤ need) (hf : any5 f ≠ false) (hlt : ∀ i, f i = true → i < ms.length) : 0 ≤ needF ms (capF ms f need) need ms.length := by
  obtain ⟨i, _, hi⟩ := any5_true hf
  have hs := (sumF_share ms f need (h.units (hlt i hi) hi).2).2
  rw [needF_sum]
  have : sumF (fun i => if capF ms f need i = true then mst ms i else 0) ms.length ≤ sumF (shareF ms f need) ms.length := sumF_le fun k _ => by
    have := shareF_nn h (f := f) hn k
    split
    · rename_i hc; have := (capF_t.1 hc).2.2; omega
    · omega
  omega
theorem cntF_mono_lt {p q : Nat → Bool} {n i : Nat} (hi : i < n) (hle : ∀ k, p k = true → q k = true) (hp : p i = false) (hq : q i = true) : cntF p n < cntF q n := by
  have e : cnt q (List.range n) = cnt p (List.range n) + cnt (fun k => q k && !p k) (List.range n) := cnt_add (fun k _ => by have := hle k; cases h : p k <;> cases h' : q k <;> simp_all) (fun k _ => by cases p k <;> simp)
  have : 1 ≤ cnt (fun k => q k && !p k) (List.range n) := cnt_pos (List.mem_range.2 hi) (by simp [hp, hq])
  rw [cntF_eq, cntF_eq]; omega
theorem callsF_paid {ms : List Mem} (h : OkMs ms) : ∀ (t : Nat) (f : Nat → Bool) (need : Int) (o : Nat → Int), cntF f ms.length < t → (∀ i, f i = true → i < ms.length) → 0 ≤ need → Paid ms f need o (callsF ms t f need o)
  | 0, f, need, o, hc, _, _ => by have := cntF_eq f ms.length; omega
  | t + 1, f, need, o, hc, hlt, hn => by
    have h5 := h.1
    rw [callsF]
    split
    · rename_i hf
      have hf' : ∀ i, f i = false := fun i => by
        cases hfi : f i
        · rfl
        · rw [← hfi]; exact any5_false hf i (by have := hlt i hfi; omega)
      refine ⟨fun _ _ => rfl, fun i hi => absurd hi (by simp [hf' i]), ?_, hn, fun _ i hi => absurd hi (by simp [hf' i])⟩
      rw [sumF_zero fun i _ => by simp [hf' i]]; simp
    · rename_i hf
      obtain ⟨j, _, hj⟩ := any5_true hf
      have hs := (sumF_share ms f need (h.units (hlt j hj) hj).2).2
      split
      · rename_i hcap
        refine ⟨fun i hi => by simp [hi], fun i hi => ?_, ?_, Int.le_refl _, fun h => absurd h (by simp)⟩
        · have hi' := hlt i hi
          have hcf := any5_false hcap i (by omega)
          simp only [hi, hi', and_self, if_true]
          refine ⟨shareF_nn h hn i, ?_⟩
          rcases Int.lt_or_le (mst ms i) (shareF ms f need i) with h' | h'
          · have := capF_t.2 ⟨hi', hi, h'⟩; rw [hcf] at this; cases this
          · exact h'
        · conv => rhs; rw [← hs]
          simp only [Int.zero_add]
          refine sumF_congr fun i hi => ?_
          cases hfi : f i
          · simp [shareF, hfi]
          · simp [hi]
      · rename_i hcap
        obtain ⟨c, _, hcc⟩ := any5_true hcap
        have hct := capF_t.1 hcc
        have ih := callsF_paid h t (fun i => f i && !capF ms f need i) (needF ms (capF ms f need) need ms.length) (fun i => if capF ms f need i = true then mst ms i else o i)
          (by have := cntF_mono_lt (p := fun i => f i && !capF ms f need i) (q := f) hct.1 (fun k hk => by simp at hk; exact hk.1) (by simp [hcc]) hct.2.1; omega)
          (fun i hi => hlt i (by simp at hi; exact hi.1)) (needF_nn h hn hf hlt)
        generalize callsF ms t _ _ _ = r at *
        obtain ⟨i1, i2, i3, i4, i5⟩ := ih
        have hcap1 : ∀ i, capF ms f need i = true → r.1 i = mst ms i := fun i hi => by rw [i1 i (by simp [hi])]; simp [hi]
        have hcm : ∀ i, capF ms f need i = true → 0 ≤ mst ms i := fun i hi => (h.2 i (capF_t.1 hi).1).2
        refine ⟨fun i hi => ?_, fun i hi => ?_, ?_, i4, fun hz i hi => ?_⟩
        · rw [i1 i (by simp [hi])]
          have : ¬ capF ms f need i = true := fun hc => by have := (capF_t.1 hc).2.1; rw [hi] at this; cases this
          simp [this]
        · cases hc : capF ms f need i
          · exact i2 i (by simp [hi, hc])
          · rw [hcap1 i hc]; exact ⟨hcm i hc, Int.le_refl _⟩
        · rw [needF_sum] at i3
          have : sumF (fun i => if f i = true then r.1 i else 0) ms.length = sumF (fun i => if (f i && !capF ms f need i) = true then r.1 i else 0) ms.length + sumF (fun i => if capF ms f need i = true then mst ms i else 0) ms.length := sumF_add fun i _ => by
            cases hc : capF ms f need i
            · simp
            · simp [(capF_t.1 hc).2.1, hcap1 i hc]
          omega
        · cases hc : capF ms f need i
          · exact i5 hz i (by simp [hi, hc])
          · exact hcap1 i hc
/-- The most that all who are asked pay. -/
def mostF (ms : List Mem) (f : Nat → Bool) : Int := sumF (fun i => if f i = true then mst ms i else 0) ms.length
theorem Paid.short_eq {ms : List Mem} {f : Nat → Bool} {need : Int} {o : Nat → Int} {r : (Nat → Int) × Int} (p : Paid ms f need o r) : r.2 = max 0 (need - mostF ms f) := by
  have h1 : sumF (fun i => if f i = true then r.1 i else 0) ms.length ≤ mostF ms f := sumF_le fun i _ => by
    split
    · exact (p.most i (by assumption)).2
    · omega
  have := p.sum
  have := p.nn
  rcases Int.lt_or_le 0 r.2 with h | h
  · have h2 : sumF (fun i => if f i = true then r.1 i else 0) ms.length = mostF ms f := sumF_congr fun i _ => by
      cases hf : f i
      · rfl
      · simp only [if_true]; exact p.short h i hf
    omega
  · omega
end Go.Proofs.Ythnaamkempmjkaa
