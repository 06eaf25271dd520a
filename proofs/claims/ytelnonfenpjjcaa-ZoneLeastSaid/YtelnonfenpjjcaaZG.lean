/- ZoneLeast: the false years do, and none of them can be spared; a class that is too far off can never be had. -/
import Derived.Test.YtelnonfenpjjcaaZF
set_option linter.unusedSimpArgs false
set_option linter.unusedVariables false
open Go Go.TV
namespace Go.Proofs.Ytelnonfenpjjcaa

/-- How many years count. -/
def cntY (r : Rule) (ys : List Year) (n : Nat) : Nat := ((ys.take n).filter fun y => decide (¬ (y.exempt = true ∨ y.parcels < r.fewest))).length
theorem cntY_succ {r : Rule} {ys : List Year} {n : Nat} {y : Year} (h : ys[n]? = some y) : cntY r ys (n + 1) = cntY r ys n + (if decide (¬ (y.exempt = true ∨ y.parcels < r.fewest)) = true then 1 else 0) := take_filter_len h
theorem cntY_le (r : Rule) (ys : List Year) (n : Nat) : cntY r ys n ≤ n := Nat.le_trans (List.length_filter_le _ _) (by simp; omega)
theorem kind_none {r : Rule} {y : Year} (h : y.exempt = true ∨ y.parcels < r.fewest) (l p : Int) : kind r y l p = 0 := by
  unfold kind; rw [if_pos h]
theorem can_none {r : Rule} {y : Year} (h : y.exempt = true ∨ y.parcels < r.fewest) {w : Bool} {k : Nat} (hk : k ∈ can r y w) : k = 0 := by
  simp only [can, List.mem_filter] at hk
  have h2 := hk.2
  unfold seen at h2
  rw [if_neg (by rw [kind_none h]; simp)] at h2
  simp only [List.any_eq_true, beq_iff_eq] at h2
  obtain ⟨l, _, p, _, h3⟩ := h2
  rw [kind_none h] at h3
  exact h3.symm
theorem move_near {r : Rule} {x : Spot} (hr : OkR r) (hx : OkS r x) (k : Nat) : (move r k x).class_ ≤ x.class_ + 1 ∧ x.class_ ≤ (move r k x).class_ + 1 := by
  obtain ⟨c1, c2, r1, r2⟩ := hr
  obtain ⟨a1, a2, b1, b2⟩ := hx
  unfold move
  split
  · constructor <;> omega
  · dsimp only; split <;> omega
  · constructor <;> dsimp only <;> omega
  · dsimp only; omega
theorem reach_near {r : Rule} {z : Zone} (h0 : fault r z = 0) (out : List Int) : ∀ n, n ≤ z.years.length → ∀ x ∈ reach r z.first out z.years n, x.class_ ≤ z.first + cntY r z.years n ∧ z.first ≤ x.class_ + cntY r z.years n
  | 0, _, x, hx => by
    simp only [reach, List.mem_singleton] at hx
    subst hx
    simp [cntY]
  | n + 1, hn, x, hx => by
    have hy : z.years[n]? = some z.years[n] := List.getElem?_eq_getElem (by omega)
    rw [reach_succ hy] at hx
    simp only [steps, List.mem_flatMap, List.mem_map] at hx
    obtain ⟨x0, h1, k, h2, rfl⟩ := hx
    have ih := reach_near h0 out n (by omega) x0 h1
    have hok := reach_ok (fault_okR h0) (fault_first h0).1 (fault_first h0).2 out z.years n x0 h1
    have hm := move_near (fault_okR h0) hok k
    have hc := cntY_succ (r := r) hy
    by_cases hq : (z.years[n]).exempt = true ∨ (z.years[n]).parcels < r.fewest
    · have hk := can_none hq h2
      subst hk
      rw [decide_eq_false (fun h => h hq)] at hc
      simp only [Bool.false_eq_true, if_false] at hc
      have : (move r 0 x0).class_ = x0.class_ := rfl
      rw [this, hc]
      exact ih
    · rw [decide_eq_true hq] at hc
      simp only [if_true] at hc
      rw [hc]
      push_cast
      omega
theorem far_none {r : Rule} {z : Zone} {c : Nat} (h0 : fault r z = 0) (hc : (c : Int) < r.classes) (h : (c : Int) - z.first > cntY r z.years z.years.length ∨ z.first - c > cntY r z.years z.years.length) : falseR r z c = ([], 7) := by
  rw [falseR_ok h0 hc]
  have : (allC z.years.length).find? (goodF r z c) = none := by
    rw [List.find?_eq_none]
    intro t _ hg
    obtain ⟨x, h1, h2⟩ := hasC_iff.1 hg
    have := reach_near h0 t z.years.length (Nat.le_refl _) x h1
    omega
  rw [this]

/-- The number of some bits: with those of a list, one by one. -/
def setO : List Int → Nat
  | [] => 0
  | x :: l => setO l ||| 2 ^ x.toNat
theorem bitN_test (o i : Nat) : bitN o i = o.testBit i := by
  simp only [bitN, Nat.testBit, Nat.one_and_eq_mod_two]
  rw [Bool.eq_iff_iff]
  simp only [decide_eq_true_eq, bne_iff_ne, ne_eq]
  omega
theorem bitN_or (a b i : Nat) : bitN (a ||| b) i = (bitN a i || bitN b i) := by simp [bitN_test]
theorem bitN_pow (m i : Nat) : bitN (2 ^ m) i = decide (m = i) := by rw [bitN_test, Nat.testBit_two_pow]
theorem bitN_setO : ∀ {l : List Int}, (∀ x ∈ l, 0 ≤ x) → ∀ i : Nat, bitN (setO l) i = l.contains (i : Int)
  | [], _, i => by simp [setO, bitN]
  | x :: l, h, i => by
    have hx := h x (by simp)
    rw [setO, bitN_or, bitN_pow, bitN_setO (fun y hy => h y (by simp [hy])) i]
    rw [Bool.eq_iff_iff]
    simp only [Bool.or_eq_true, decide_eq_true_eq, List.contains_iff_mem, List.mem_cons]
    constructor
    · rintro (h1 | h1)
      · exact .inr h1
      · exact .inl (by omega)
    · rintro (h1 | h1)
      · exact .inr (by omega)
      · exact .inl h1
theorem setO_lt : ∀ {l : List Int}, (∀ x ∈ l, 0 ≤ x ∧ x < 6) → setO l < 64
  | [], _ => by simp [setO]
  | x :: l, h => by
    have hx := h x (by simp)
    have h1 := setO_lt (l := l) fun y hy => h y (by simp [hy])
    have h2 : 2 ^ x.toNat < 2 ^ 6 := Nat.pow_lt_pow_right (by omega) (by omega)
    exact Nat.or_lt_two_pow (n := 6) h1 h2
/-- With the bits of a list the document's Reach is that of the list. -/
theorem refR_set {r : Rule} {z : Zone} {t : List Int} {c : Nat} (h0 : fault r z = 0) (hc : (c : Int) < r.classes) (h : ∀ x ∈ t, 0 ≤ x) : (c : Int) ∈ refR r z z.years.length (setO t) ↔ goodF r z c t = true := by
  rw [refR_eq h0 (out := t) (fun i _ => (bitN_setO h i).symm) (Nat.le_refl _), mem_classes]
  unfold goodF
  exact ⟨fun h => h.2.2, fun h => ⟨by omega, hc, h⟩⟩
theorem reach_out {r : Rule} {f : Int} {out out' : List Int} {ys : List Year} (h : ∀ i : Nat, i < ys.length → out.contains (i : Int) = out'.contains (i : Int)) : ∀ n, reach r f out ys n = reach r f out' ys n
  | 0 => rfl
  | n + 1 => by
    simp only [reach]
    cases hy : ys[n]? with
    | none => rfl
    | some y =>
      have hn := (List.getElem?_eq_some_iff.1 hy).1
      simp only [h n hn, reach_out h n]
theorem xor_add : ∀ s : Nat, s < 64 → ∀ m : Nat, m < 6 → s.testBit m = true → (s ^^^ 2 ^ m) + 2 ^ m = s := by decide +kernel
theorem setO_erase {l : List Int} (h : ∀ x ∈ l, 0 ≤ x ∧ x < 6) {x : Int} (hx : x ∈ l) : ∃ o : Nat, setO l = o + 2 ^ x.toNat ∧ ∀ i : Nat, bitN o i = (l.contains (i : Int) && decide ((i : Int) ≠ x)) := by
  have h0 : ∀ y ∈ l, 0 ≤ y := fun y hy => (h y hy).1
  have hx0 := h x hx
  have hb : (setO l).testBit x.toNat = true := by
    rw [← bitN_test, bitN_setO h0, Int.toNat_of_nonneg hx0.1]
    exact List.contains_iff_mem.2 hx
  refine ⟨setO l ^^^ 2 ^ x.toNat, (xor_add _ (setO_lt h) _ (by omega) hb).symm, fun i => ?_⟩
  rw [bitN_test, Nat.testBit_xor, Nat.testBit_two_pow, ← bitN_test, bitN_setO h0]
  by_cases e : x.toNat = i
  · have e' : (i : Int) = x := by omega
    have hm : l.contains (i : Int) = true := by rw [e']; exact List.contains_iff_mem.2 hx
    simp [e, hm, e', hx]
  · have e' : (i : Int) ≠ x := by omega
    simp [e, e']
end Go.Proofs.Ytelnonfenpjjcaa
