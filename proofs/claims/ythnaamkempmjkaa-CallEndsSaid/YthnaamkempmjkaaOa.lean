/- Shares by single pence: who gets the next one. -/
import Derived.Test.YthnaamkempmjkaaPd
set_option linter.unusedSimpArgs false
set_option linter.unusedVariables false
namespace Go.Proofs.Ythnaamkempmjkaa

/-- Shares and remainders after some pence. -/
def outP (ms : List Mem) (f : Nat → Bool) (need U t : Int) (i : Nat) : Int := if i < ms.length ∧ f i = true then quo ms need U i + (if beforeF ms f need U i < t then 1 else 0) else 0
def restP (ms : List Mem) (f : Nat → Bool) (need U t : Int) (i : Nat) : Int := if f i = true ∧ t ≤ beforeF ms f need U i then rst ms need U i else -1
theorem befR_lt {ms : List Mem} {f : Nat → Bool} {need U : Int} {k b : Nat} (hk : k < ms.length) (hb : b < ms.length) (hf : f k = true) (h : befR ms need U k b = true) : beforeF ms f need U k < beforeF ms f need U b := by
  rw [beforeF_rank ms f need U hk, beforeF_rank ms f need U hb]
  have e : cnt (fun i => befR ms need U i k || decide (i = k)) (whoL f ms.length) = cnt (fun i => befR ms need U i k) (whoL f ms.length) + cnt (fun i => decide (i = k)) (whoL f ms.length) := cnt_add (fun _ _ => rfl) fun i _ hi => by
    have : i = k := by simpa using hi.2
    subst this; rw [befR_irr] at hi; exact absurd hi.1 (by simp)
  have h1 : 1 ≤ cnt (fun i => decide (i = k)) (whoL f ms.length) := cnt_pos (whoL_mem.2 ⟨hk, hf⟩) (by simp)
  have h2 : cnt (fun i => befR ms need U i k || decide (i = k)) (whoL f ms.length) ≤ cnt (fun i => befR ms need U i b) (whoL f ms.length) := cnt_mono fun i _ hi => by
    rcases Bool.or_eq_true _ _ ▸ hi with hi | hi
    · exact befR_tr ms need U i k b hi h
    · have : i = k := by simpa using hi
      subst this; exact h
  omega
/-- The one who gets the next penny. -/
theorem next_penny {ms : List Mem} {f : Nat → Bool} {need U t : Int} (hU : 1 ≤ U) (h0 : 0 ≤ t) (h1 : t < cntF f ms.length) :
    ∃ b, b < ms.length ∧ f b = true ∧ beforeF ms f need U b = t ∧ ∀ k, k < ms.length → k ≠ b → beforeF ms f need U k ≠ t ∨ f k = false := by
  have c1 := cnt_before ms f need U t h0 (by omega)
  have c2 := cnt_before ms f need U (t + 1) (by omega) (by omega)
  have hex : ∃ b, b < ms.length ∧ f b = true ∧ beforeF ms f need U b = t := by
    apply Classical.byContradiction
    intro hno
    have : cntF (fun i => f i && decide (beforeF ms f need U i < t + 1)) ms.length ≤ cntF (fun i => f i && decide (beforeF ms f need U i < t)) ms.length := by
      rw [cntF_eq, cntF_eq]
      have := cnt_mono (p := fun i => f i && decide (beforeF ms f need U i < t + 1)) (q := fun i => f i && decide (beforeF ms f need U i < t)) (l := List.range ms.length) fun i hi hp => by
        simp only [Bool.and_eq_true, decide_eq_true_eq, List.mem_range] at hp hi ⊢
        refine ⟨hp.1, ?_⟩
        rcases Int.lt_or_le (beforeF ms f need U i) t with h | h
        · exact h
        · exact absurd ⟨i, hi, hp.1, by omega⟩ hno
      omega
    omega
  obtain ⟨b, hb, hf, hbt⟩ := hex
  refine ⟨b, hb, hf, hbt, fun k hk hne => ?_⟩
  cases hfk : f k
  · exact .inr rfl
  · left
    intro hkt
    rcases befR_to ms need U k b hne with h | h
    · have := befR_lt (f := f) hk hb hfk h; omega
    · have := befR_lt (f := f) hb hk hf h; omega
/-- It is the first one of those with the greatest remainder. -/
theorem penny_best {ms : List Mem} {f : Nat → Bool} {need U t : Int} (hU : 1 ≤ U) {b c : Nat} (hb : b < ms.length) (hf : f b = true) (hbt : beforeF ms f need U b = t) (hc : c < ms.length)
    (hle : ∀ j, j < ms.length → restP ms f need U t j < restP ms f need U t c ∨ (restP ms f need U t j = restP ms f need U t c ∧ c ≤ j)) : c = b := by
  have hr := fun i => rst_bd (ms := ms) (need := need) hU i
  have eb : restP ms f need U t b = rst ms need U b := by unfold restP; rw [if_pos ⟨hf, by omega⟩]
  have h := hle b hb
  rw [eb] at h
  have hrb := hr b
  by_cases hcf : f c = true ∧ t ≤ beforeF ms f need U c
  · have ec : restP ms f need U t c = rst ms need U c := by unfold restP; rw [if_pos hcf]
    rw [ec] at h
    by_cases e : c = b
    · exact e
    · rcases befR_to ms need U c b e with h' | h'
      · have := befR_lt (f := f) hc hb hcf.1 h'; omega
      · simp only [befR, Bool.or_eq_true, Bool.and_eq_true, decide_eq_true_eq] at h'; omega
  · have ec : restP ms f need U t c = -1 := by unfold restP; rw [if_neg hcf]
    omega
theorem outP_at {ms : List Mem} {f : Nat → Bool} {need U t : Int} {b : Nat} (hb : b < ms.length) (hf : f b = true) (hbt : beforeF ms f need U b = t) : outP ms f need U t b + 1 = outP ms f need U (t + 1) b := by
  unfold outP
  simp only [hb, hf, hbt, and_self, if_true, Int.lt_irrefl, if_false, show t < t + 1 by omega]; omega
theorem outP_other {ms : List Mem} {f : Nat → Bool} {need U t : Int} {b : Nat} (ho : ∀ k, k < ms.length → k ≠ b → beforeF ms f need U k ≠ t ∨ f k = false) (i : Nat) (hi : i ≠ b) : outP ms f need U t i = outP ms f need U (t + 1) i := by
  unfold outP
  by_cases h : i < ms.length ∧ f i = true
  · rw [if_pos h, if_pos h]
    have := ho i h.1 hi
    rw [h.2] at this
    have h2 : beforeF ms f need U i ≠ t := by simpa using this
    congr 1
    by_cases h3 : beforeF ms f need U i < t
    · rw [if_pos h3, if_pos (by omega)]
    · rw [if_neg h3, if_neg (by omega)]
  · rw [if_neg h, if_neg h]
theorem restP_at {ms : List Mem} {f : Nat → Bool} {need U t : Int} {b : Nat} (hbt : beforeF ms f need U b = t) : (-1 : Int) = restP ms f need U (t + 1) b := by
  unfold restP
  rw [if_neg (by omega)]
theorem restP_other {ms : List Mem} {f : Nat → Bool} {need U t : Int} {b : Nat} (ho : ∀ k, k < ms.length → k ≠ b → beforeF ms f need U k ≠ t ∨ f k = false) (i : Nat) (hl : i < ms.length) (hi : i ≠ b) : restP ms f need U t i = restP ms f need U (t + 1) i := by
  unfold restP
  have := ho i hl hi
  by_cases h : f i = true
  · rw [h] at this
    have h2 : beforeF ms f need U i ≠ t := by simpa using this
    by_cases h3 : t ≤ beforeF ms f need U i
    · rw [if_pos ⟨h, h3⟩, if_pos ⟨h, by omega⟩]
    · rw [if_neg (by omega), if_neg (by omega)]
  · rw [if_neg (by simp [h]), if_neg (by simp [h])]
theorem beforeF_nn (ms : List Mem) (f : Nat → Bool) (need U : Int) (i : Nat) : 0 ≤ beforeF ms f need U i := by
  rw [beforeF, cntF_eq, cntF_eq]; omega
/-- Shares and remainders before any penny, so far. -/
def outQ (ms : List Mem) (f : Nat → Bool) (need U : Int) (k i : Nat) : Int := if i < k ∧ f i = true then quo ms need U i else 0
def restQ (ms : List Mem) (f : Nat → Bool) (need U : Int) (k i : Nat) : Int := if i < k then (if f i = true then rst ms need U i else -1) else 0
theorem outQ_n {ms : List Mem} {f : Nat → Bool} {need U : Int} {i : Nat} (hi : i < ms.length) : outQ ms f need U ms.length i = outP ms f need U 0 i := by
  have := beforeF_nn ms f need U i
  simp only [outQ, outP, hi, true_and]
  rw [if_neg (show ¬ beforeF ms f need U i < 0 by omega)]; simp
theorem restQ_n {ms : List Mem} {f : Nat → Bool} {need U : Int} {i : Nat} (hi : i < ms.length) : restQ ms f need U ms.length i = restP ms f need U 0 i := by
  have := beforeF_nn ms f need U i
  simp only [restQ, restP, hi, if_true, this, and_true]
theorem outP_share {ms : List Mem} {f : Nat → Bool} {need : Int} (i : Nat) : outP ms f need (unitsF ms f ms.length) (leftF ms f need (unitsF ms f ms.length) ms.length) i = shareF ms f need i := rfl
end Go.Proofs.Ythnaamkempmjkaa
