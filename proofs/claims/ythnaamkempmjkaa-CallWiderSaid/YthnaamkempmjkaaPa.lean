/- Shares and calls in plain Lean: what they sum up to. -/
import Derived.Test.YthnaamkempmjkaaKs
set_option linter.unusedSimpArgs false
set_option linter.unusedVariables false
namespace Go.Proofs.Ythnaamkempmjkaa

/-! ### Counting -/
def cnt {α : Type} (p : α → Bool) : List α → Nat
  | [] => 0
  | x :: l => (if p x = true then 1 else 0) + cnt p l
theorem cnt_le {α : Type} (p : α → Bool) : ∀ l : List α, cnt p l ≤ l.length
  | [] => Nat.le_refl _
  | x :: l => by have := cnt_le p l; simp only [cnt, List.length_cons]; split <;> omega
theorem cnt_mono {α : Type} {p q : α → Bool} : ∀ {l : List α}, (∀ x ∈ l, p x = true → q x = true) → cnt p l ≤ cnt q l
  | [], _ => Nat.le_refl _
  | x :: l, h => by
    have ih := cnt_mono (l := l) (p := p) (q := q) fun y hy => h y (List.mem_cons_of_mem _ hy)
    have hx := h x List.mem_cons_self
    simp only [cnt]
    split
    · rw [if_pos (hx (by assumption))]; omega
    · split <;> omega
theorem cnt_congr {α : Type} {p q : α → Bool} {l : List α} (h : ∀ x ∈ l, p x = q x) : cnt p l = cnt q l :=
  Nat.le_antisymm (cnt_mono fun x hx hp => by rw [← h x hx]; exact hp) (cnt_mono fun x hx hp => by rw [h x hx]; exact hp)
theorem cnt_add {α : Type} {p q r : α → Bool} : ∀ {l : List α}, (∀ x ∈ l, r x = (p x || q x)) → (∀ x ∈ l, ¬ (p x = true ∧ q x = true)) → cnt r l = cnt p l + cnt q l
  | [], _, _ => rfl
  | x :: l, h, h' => by
    have ih := cnt_add (l := l) (p := p) (q := q) (r := r) (fun y hy => h y (List.mem_cons_of_mem _ hy)) fun y hy => h' y (List.mem_cons_of_mem _ hy)
    have hx := h x List.mem_cons_self
    have hx' := h' x List.mem_cons_self
    simp only [cnt, ih, hx]
    revert hx'
    cases p x <;> cases q x <;> simp <;> omega
theorem cnt_true {α : Type} {p : α → Bool} {l : List α} (h : ∀ x ∈ l, p x = true) : cnt p l = l.length := by
  induction l with
  | nil => rfl
  | cons x l ih => simp only [cnt, h x List.mem_cons_self, if_true, ih fun y hy => h y (List.mem_cons_of_mem _ hy), List.length_cons]; omega
theorem cnt_false {α : Type} {p : α → Bool} {l : List α} (h : ∀ x ∈ l, p x = false) : cnt p l = 0 := by
  induction l with
  | nil => rfl
  | cons x l ih => simp only [cnt, h x List.mem_cons_self, ih fun y hy => h y (List.mem_cons_of_mem _ hy)]; simp
theorem cnt_pos {α : Type} {p : α → Bool} : ∀ {l : List α} {x : α}, x ∈ l → p x = true → 1 ≤ cnt p l
  | y :: l, x, hx, hp => by
    rcases List.mem_cons.1 hx with rfl | hx
    · simp only [cnt, hp, if_true]; omega
    · have := cnt_pos hx hp; simp only [cnt]; omega
theorem cnt_ex {α : Type} {p : α → Bool} : ∀ {l : List α}, 1 ≤ cnt p l → ∃ x ∈ l, p x = true
  | [], h => by simp [cnt] at h
  | x :: l, h => by
    by_cases hx : p x = true
    · exact ⟨x, List.mem_cons_self, hx⟩
    · simp only [cnt, hx] at h
      obtain ⟨y, hy, hp⟩ := cnt_ex (l := l) (p := p) (by simpa using h)
      exact ⟨y, List.mem_cons_of_mem _ hy, hp⟩
theorem cnt_append {α : Type} {p : α → Bool} : ∀ {l m : List α}, cnt p (l ++ m) = cnt p l + cnt p m
  | [], m => by simp [cnt]
  | x :: l, m => by simp only [List.cons_append, cnt, cnt_append (l := l)]; omega
theorem cnt_filter {α : Type} {p f : α → Bool} : ∀ {l : List α}, cnt p (l.filter f) = cnt (fun x => f x && p x) l
  | [] => rfl
  | x :: l => by
    have ih := cnt_filter (l := l) (p := p) (f := f)
    simp only [List.filter_cons]
    split
    · rename_i h; simp only [cnt, ih, h, Bool.true_and]
    · rename_i h; simp [cnt, ih, h]
/-- Of a list that a strict total order orders, just so many have less than t before them. -/
theorem cnt_rank (R : Nat → Nat → Bool) (hir : ∀ a, R a a = false) (htr : ∀ a b c, R a b = true → R b c = true → R a c = true) (hto : ∀ a b, a ≠ b → R a b = true ∨ R b a = true) :
    ∀ (l : List Nat), l.Nodup → ∀ t : Nat, cnt (fun i => decide (cnt (fun k => R k i) l < t)) l = min t l.length
  | [], _, t => by simp [cnt]
  | x :: l, hnd, t => by
    rw [List.nodup_cons] at hnd
    have ih := cnt_rank R hir htr hto l hnd.2
    have hxl := cnt_le (fun k => R k x) l
    have hne : ∀ i ∈ l, i ≠ x := fun i hi e => hnd.1 (e ▸ hi)
    have hlo : ∀ i ∈ l, R x i = true → cnt (fun k => R k x) l ≤ cnt (fun k => R k i) l := fun i _ h => cnt_mono fun k _ hk => htr k x i hk h
    have hhi : ∀ i ∈ l, R x i = false → cnt (fun k => R k i) l + 1 ≤ cnt (fun k => R k x) l := fun i hi h => by
      have hix : R i x = true := by
        rcases hto i x (hne i hi) with h' | h'
        · exact h'
        · rw [h] at h'; exact absurd h' (by simp)
      have e : cnt (fun k => R k i || decide (k = i)) l = cnt (fun k => R k i) l + cnt (fun k => decide (k = i)) l := cnt_add (fun _ _ => rfl) fun k _ hk => by
        have : k = i := by simpa using hk.2
        subst this; rw [hir] at hk; exact absurd hk.1 (by simp)
      have h1 : 1 ≤ cnt (fun k => decide (k = i)) l := cnt_pos hi (by simp)
      have h2 : cnt (fun k => R k i || decide (k = i)) l ≤ cnt (fun k => R k x) l := cnt_mono fun k _ hk => by
        rcases Bool.or_eq_true _ _ ▸ hk with hk | hk
        · exact htr k i x hk hix
        · have : k = i := by simpa using hk
          subst this; exact hix
      omega
    have hc : ∀ i, cnt (fun k => R k i) (x :: l) = (if R x i = true then 1 else 0) + cnt (fun k => R k i) l := fun _ => rfl
    have hcx : cnt (fun k => R k x) (x :: l) = cnt (fun k => R k x) l := by rw [hc, hir]; simp
    show (if decide (cnt (fun k => R k x) (x :: l) < t) = true then 1 else 0) + cnt (fun i => decide (cnt (fun k => R k i) (x :: l) < t)) l = min t (l.length + 1)
    by_cases ht : t ≤ cnt (fun k => R k x) l
    · have e : cnt (fun i => decide (cnt (fun k => R k i) (x :: l) < t)) l = cnt (fun i => decide (cnt (fun k => R k i) l < t)) l := cnt_congr fun i hi => by
        have h1 := hc i
        cases h : R x i
        · rw [h] at h1; rw [decide_eq_decide]; simp only [Bool.false_eq_true, if_false] at h1; omega
        · have := hlo i hi h
          rw [h] at h1; rw [decide_eq_decide]; simp only [if_true] at h1; omega
      rw [e, ih t, if_neg (by simp; omega)]
      omega
    · have e : cnt (fun i => decide (cnt (fun k => R k i) (x :: l) < t)) l = cnt (fun i => decide (cnt (fun k => R k i) l < t - 1)) l := cnt_congr fun i hi => by
        have h1 := hc i
        cases h : R x i
        · have := hhi i hi h
          rw [h] at h1; rw [decide_eq_decide]; simp only [Bool.false_eq_true, if_false] at h1; omega
        · rw [h] at h1; rw [decide_eq_decide]; simp only [if_true] at h1; omega
      rw [e, ih (t - 1), if_pos (by simp; omega)]
      omega
theorem cntF_eq (p : Nat → Bool) : ∀ n, cntF p n = (cnt p (List.range n) : Int)
  | 0 => rfl
  | n + 1 => by rw [List.range_succ, cnt_append, cntF, cntF_eq p n]; simp only [cnt]; split <;> simp

/-! ### Sums -/
def sumF (g : Nat → Int) : Nat → Int
  | 0 => 0
  | k + 1 => sumF g k + g k
theorem sumL_append (l : List Int) (x : Int) : sumL (l ++ [x]) = sumL l + x := by simp [sumL]
theorem sumL_tab (n : Nat) (o : Nat → Int) : sumL (tab n o) = sumF o n := by
  induction n with
  | zero => rfl
  | succ n ih => rw [tab, List.range_succ, List.map_append]; simp only [List.map_cons, List.map_nil]; rw [sumL_append]; rw [tab] at ih; rw [ih]; rfl
theorem sumF_congr {g h : Nat → Int} : ∀ {n : Nat}, (∀ i, i < n → g i = h i) → sumF g n = sumF h n
  | 0, _ => rfl
  | n + 1, e => by simp only [sumF]; rw [sumF_congr (fun i hi => e i (by omega)), e n (by omega)]
theorem sumF_add {g h k : Nat → Int} : ∀ {n : Nat}, (∀ i, i < n → k i = g i + h i) → sumF k n = sumF g n + sumF h n
  | 0, _ => rfl
  | n + 1, e => by simp only [sumF]; rw [sumF_add (fun i hi => e i (by omega)), e n (by omega)]; omega
theorem sumF_le {g h : Nat → Int} : ∀ {n : Nat}, (∀ i, i < n → g i ≤ h i) → sumF g n ≤ sumF h n
  | 0, _ => Int.le_refl _
  | n + 1, e => by simp only [sumF]; have := sumF_le (g := g) (h := h) (n := n) (fun i hi => e i (by omega)); have := e n (by omega); omega
theorem sumF_mul {g : Nat → Int} (c : Int) : ∀ {n : Nat}, sumF (fun i => c * g i) n = c * sumF g n
  | 0 => by simp [sumF]
  | n + 1 => by simp only [sumF]; rw [sumF_mul c, Int.mul_add]
theorem sumF_zero : ∀ {n : Nat} {g : Nat → Int}, (∀ i, i < n → g i = 0) → sumF g n = 0
  | 0, _, _ => rfl
  | n + 1, g, e => by simp only [sumF]; rw [sumF_zero (fun i hi => e i (by omega)), e n (by omega)]; rfl
theorem sumF_cnt (p : Nat → Bool) : ∀ n, sumF (fun i => if p i = true then 1 else 0) n = cntF p n
  | 0 => rfl
  | n + 1 => by simp only [sumF, cntF, sumF_cnt p n]
theorem unitsF_sum (ms : List Mem) (f : Nat → Bool) : ∀ n, unitsF ms f n = sumF (fun i => if f i = true then un ms i else 0) n
  | 0 => rfl
  | n + 1 => by simp only [unitsF, sumF, unitsF_sum ms f n]
theorem leftF_sum (ms : List Mem) (f : Nat → Bool) (need U : Int) : ∀ n, leftF ms f need U n = need - sumF (fun i => if f i = true then quo ms need U i else 0) n
  | 0 => by simp [leftF, sumF]
  | n + 1 => by simp only [leftF, sumF, leftF_sum ms f need U n]; omega
theorem needF_sum (ms : List Mem) (c : Nat → Bool) (need : Int) : ∀ n, needF ms c need n = need - sumF (fun i => if c i = true then mst ms i else 0) n
  | 0 => by simp [needF, sumF]
  | n + 1 => by simp only [needF, sumF, needF_sum ms c need n]; omega

/-! ### Shares -/
/-- Who is before whom. -/
def befR (ms : List Mem) (need U : Int) (k i : Nat) : Bool := decide (rst ms need U i < rst ms need U k) || (decide (rst ms need U k = rst ms need U i) && decide (k < i))
theorem befR_irr (ms : List Mem) (need U : Int) (a : Nat) : befR ms need U a a = false := by simp [befR]
theorem befR_tr (ms : List Mem) (need U : Int) (a b c : Nat) (h1 : befR ms need U a b = true) (h2 : befR ms need U b c = true) : befR ms need U a c = true := by
  simp only [befR, Bool.or_eq_true, Bool.and_eq_true, decide_eq_true_eq] at *; omega
theorem befR_to (ms : List Mem) (need U : Int) (a b : Nat) (h : a ≠ b) : befR ms need U a b = true ∨ befR ms need U b a = true := by
  simp only [befR, Bool.or_eq_true, Bool.and_eq_true, decide_eq_true_eq]; omega
def whoL (f : Nat → Bool) (n : Nat) : List Nat := (List.range n).filter f
theorem whoL_nodup (f : Nat → Bool) (n : Nat) : (whoL f n).Nodup := List.nodup_range.filter _
theorem whoL_mem {f : Nat → Bool} {n i : Nat} : i ∈ whoL f n ↔ i < n ∧ f i = true := by simp [whoL]
theorem cntF_prefix {p : Nat → Bool} {i : Nat} : ∀ {n : Nat}, i ≤ n → cntF p i = cntF (fun k => p k && decide (k < i)) n
  | 0, h => by have : i = 0 := by omega
               subst this; rfl
  | n + 1, h => by
    rcases Nat.lt_or_ge i (n + 1) with h' | h'
    · simp only [cntF]; rw [cntF_prefix (n := n) (by omega)]
      have : ¬ (p n && decide (n < i)) = true := by simp; omega
      rw [if_neg this]; omega
    · have : i = n + 1 := by omega
      subst this
      rw [cntF_eq, cntF_eq]; congr 1
      exact cnt_congr fun k hk => by simp only [List.mem_range] at hk; simp [hk]
theorem beforeF_rank (ms : List Mem) (f : Nat → Bool) (need U : Int) {i : Nat} (hi : i < ms.length) : beforeF ms f need U i = (cnt (fun k => befR ms need U k i) (whoL f ms.length) : Int) := by
  rw [beforeF, cntF_prefix (i := i) (n := ms.length) (by omega), cntF_eq, cntF_eq, whoL, cnt_filter]
  rw [cnt_add (r := fun k => f k && befR ms need U k i) (p := fun k => f k && decide (rst ms need U i < rst ms need U k)) (q := fun k => (f k && decide (rst ms need U k = rst ms need U i)) && decide (k < i))]
  · simp
  · intro k _; simp only [befR]; cases f k <;> simp
  · intro k _ h
    simp only [Bool.and_eq_true, decide_eq_true_eq] at h; omega
/-- Just so many get a penny more as pence are left. -/
theorem cnt_before (ms : List Mem) (f : Nat → Bool) (need U t : Int) (h0 : 0 ≤ t) (h1 : t ≤ cntF f ms.length) : cntF (fun i => f i && decide (beforeF ms f need U i < t)) ms.length = t := by
  have h := cnt_rank (befR ms need U) (befR_irr ms need U) (befR_tr ms need U) (befR_to ms need U) _ (whoL_nodup f ms.length) t.toNat
  have hl : cntF f ms.length = ((whoL f ms.length).length : Int) := by
    rw [cntF_eq, ← cnt_true (p := f) (l := whoL f ms.length) fun i hi => (whoL_mem.1 hi).2, whoL, cnt_filter]
    congr 1; exact cnt_congr fun x _ => by simp
  rw [whoL, cnt_filter] at h
  rw [cntF_eq, cnt_congr (q := fun x => f x && decide (cnt (fun k => befR ms need U k x) (List.filter f (List.range ms.length)) < t.toNat)), h]
  · rw [whoL] at hl; omega
  · intro i hi
    simp only [List.mem_range] at hi
    rw [beforeF_rank ms f need U hi, whoL]
    congr 1
    rw [decide_eq_decide]; omega
theorem sumF_share (ms : List Mem) (f : Nat → Bool) (need : Int) (hU : 1 ≤ unitsF ms f ms.length) :
    (0 ≤ leftF ms f need (unitsF ms f ms.length) ms.length ∧ leftF ms f need (unitsF ms f ms.length) ms.length < cntF f ms.length) ∧ sumF (shareF ms f need) ms.length = need := by
  generalize hUe : unitsF ms f ms.length = U at *
  have hr : ∀ i, 0 ≤ rst ms need U i ∧ rst ms need U i < U := fun i => ⟨Int.emod_nonneg _ (by omega), Int.emod_lt_of_pos _ (by omega)⟩
  have hq : ∀ i, need * un ms i = U * quo ms need U i + rst ms need U i := fun i => by have := Int.mul_ediv_add_emod (need * un ms i) U; simp only [quo, rst]; omega
  have hs : need * U = U * sumF (fun i => if f i = true then quo ms need U i else 0) ms.length + sumF (fun i => if f i = true then rst ms need U i else 0) ms.length := by
    conv => lhs; rw [← hUe, unitsF_sum]
    rw [← sumF_mul, ← sumF_mul]
    refine sumF_add fun i _ => ?_
    split
    · exact hq i
    · simp
  have hl := leftF_sum ms f need U ms.length
  have hR : U * leftF ms f need U ms.length = sumF (fun i => if f i = true then rst ms need U i else 0) ms.length := by
    rw [hl, Int.mul_sub]; rw [Int.mul_comm] at hs; omega
  have h0 : 0 ≤ sumF (fun i => if f i = true then rst ms need U i else 0) ms.length := by
    have := sumF_le (g := fun _ => 0) (h := fun i => if f i = true then rst ms need U i else 0) (n := ms.length) fun i _ => by have := hr i; split <;> omega
    rw [sumF_zero fun _ _ => rfl] at this; exact this
  have h1 : sumF (fun i => if f i = true then rst ms need U i else 0) ms.length ≤ (U - 1) * cntF f ms.length := by
    rw [← sumF_cnt, ← sumF_mul]
    exact sumF_le fun i _ => by have := hr i; split <;> omega
  rw [← hR] at h0 h1
  have hc : 0 < cntF f ms.length := by
    have h := cntF_eq f ms.length
    rcases Int.lt_or_le 0 (cntF f ms.length) with h' | h'
    · exact h'
    · exfalso
      have h2 : cnt f (List.range ms.length) = 0 := by omega
      have : unitsF ms f ms.length = 0 := by
        rw [unitsF_sum]; refine sumF_zero fun i hi => ?_
        split
        · rename_i hf; have := cnt_pos (l := List.range ms.length) (List.mem_range.2 hi) hf; omega
        · rfl
      omega
  have hA : 0 ≤ leftF ms f need U ms.length := by
    rcases Int.lt_or_le (leftF ms f need U ms.length) 0 with h | h
    · have := Int.mul_neg_of_pos_of_neg (show 0 < U by omega) h; omega
    · exact h
  have hB : leftF ms f need U ms.length < cntF f ms.length := by
    rcases Int.lt_or_le (leftF ms f need U ms.length) (cntF f ms.length) with h | h
    · exact h
    · have h2 := Int.mul_le_mul_of_nonneg_left h (show 0 ≤ U by omega)
      rw [Int.sub_mul] at h1; omega
  refine ⟨⟨hA, hB⟩, ?_⟩
  have hS : sumF (shareF ms f need) ms.length = sumF (fun i => if f i = true then quo ms need U i else 0) ms.length + sumF (fun i => if (f i && decide (beforeF ms f need U i < leftF ms f need U ms.length)) = true then 1 else 0) ms.length :=
    sumF_add fun i hi => by
      simp only [shareF, hUe, hi, true_and]
      cases f i <;> simp
  rw [hS, sumF_cnt, cnt_before ms f need U _ hA (by omega)]
  omega
end Go.Proofs.Ythnaamkempmjkaa
