/- Shares and calls in plain Lean: what they sum up to. Calls in plain Lean: what all members pay, and what is short. Bounds in plain Lean. Ranges gone through; lists. Tariffs: which are valid, by the program. Tariffs: lists that rise; valid tariffs, by the program. Valid tariffs, by the program. Tariffs: the week of a day, and where a count stands. Tariffs: the tariff of a day, and the loss of a spot. -/
import Derived.Test.YtjadiajfbflghaaGreatA1
import Derived.Test.YtjadiajfbflghaaGreatA7
import Derived.Test.YtjadiajfbflghaaGreatA5
set_option linter.unusedSimpArgs false
set_option linter.unusedVariables false
set_option linter.unusedSimpArgs false
set_option linter.unusedVariables false
namespace Go.Proofs.YtjadiajfbflghaaGreat
def cnt {α : Type} (p : α → Bool) : List α → Nat
  | [] => 0
  | x :: l => (if p x = true then 1 else 0) + cnt p l
theorem cnt_le {α : Type} (p : α → Bool) : ∀ l : List α, cnt p l ≤ l.length
  | [] => Nat.le_refl _
  | x :: l => by have := cnt_le p l; simp only [cnt, List.length_cons]; split <;> omega
theorem cnt_mono {α : Type} {p q : α → Bool} : ∀ {l : List α}, (∀ x ∈ l, p x = true → q x = true) → cnt p l ≤ cnt q l
  | [], _ => Nat.le_refl _
  | x :: l, h => by
    have ih := cnt_mono (l := l) (p := p) (q := q) fun y hy => h y (List.mem_cons_of_mem _ hy)
    have hx := h x List.mem_cons_self
    simp only [cnt]
    split
    · rw [if_pos (hx (by assumption))]; omega
    · split <;> omega
theorem cnt_congr {α : Type} {p q : α → Bool} {l : List α} (h : ∀ x ∈ l, p x = q x) : cnt p l = cnt q l :=
  Nat.le_antisymm (cnt_mono fun x hx hp => by rw [← h x hx]; exact hp) (cnt_mono fun x hx hp => by rw [h x hx]; exact hp)
theorem cnt_add {α : Type} {p q r : α → Bool} : ∀ {l : List α}, (∀ x ∈ l, r x = (p x || q x)) → (∀ x ∈ l, ¬ (p x = true ∧ q x = true)) → cnt r l = cnt p l + cnt q l
  | [], _, _ => rfl
  | x :: l, h, h' => by
    have ih := cnt_add (l := l) (p := p) (q := q) (r := r) (fun y hy => h y (List.mem_cons_of_mem _ hy)) fun y hy => h' y (List.mem_cons_of_mem _ hy)
    have hx := h x List.mem_cons_self
    have hx' := h' x List.mem_cons_self
    simp only [cnt, ih, hx]
    revert hx'
    cases p x <;> cases q x <;> simp <;> omega
theorem cnt_true {α : Type} {p : α → Bool} {l : List α} (h : ∀ x ∈ l, p x = true) : cnt p l = l.length := by
  induction l with
  | nil => rfl
  | cons x l ih => simp only [cnt, h x List.mem_cons_self, if_true, ih fun y hy => h y (List.mem_cons_of_mem _ hy), List.length_cons]; omega
theorem cnt_pos {α : Type} {p : α → Bool} : ∀ {l : List α} {x : α}, x ∈ l → p x = true → 1 ≤ cnt p l
  | y :: l, x, hx, hp => by
    rcases List.mem_cons.1 hx with rfl | hx
    · simp only [cnt, hp, if_true]; omega
    · have := cnt_pos hx hp; simp only [cnt]; omega
theorem cnt_append {α : Type} {p : α → Bool} : ∀ {l m : List α}, cnt p (l ++ m) = cnt p l + cnt p m
  | [], m => by simp [cnt]
  | x :: l, m => by simp only [List.cons_append, cnt, cnt_append (l := l)]; omega
theorem cnt_filter {α : Type} {p f : α → Bool} : ∀ {l : List α}, cnt p (l.filter f) = cnt (fun x => f x && p x) l
  | [] => rfl
  | x :: l => by
    have ih := cnt_filter (l := l) (p := p) (f := f)
    simp only [List.filter_cons]
    split
    · rename_i h; simp only [cnt, ih, h, Bool.true_and]
    · rename_i h; simp [cnt, ih, h]
theorem cnt_rank (R : Nat → Nat → Bool) (hir : ∀ a, R a a = false) (htr : ∀ a b c, R a b = true → R b c = true → R a c = true) (hto : ∀ a b, a ≠ b → R a b = true ∨ R b a = true) :
    ∀ (l : List Nat), l.Nodup → ∀ t : Nat, cnt (fun i => decide (cnt (fun k => R k i) l < t)) l = min t l.length
  | [], _, t => by simp [cnt]
  | x :: l, hnd, t => by
    rw [List.nodup_cons] at hnd
    have ih := cnt_rank R hir htr hto l hnd.2
    have hxl := cnt_le (fun k => R k x) l
    have hne : ∀ i ∈ l, i ≠ x := fun i hi e => hnd.1 (e ▸ hi)
    have hlo : ∀ i ∈ l, R x i = true → cnt (fun k => R k x) l ≤ cnt (fun k => R k i) l := fun i _ h => cnt_mono fun k _ hk => htr k x i hk h
    have hhi : ∀ i ∈ l, R x i = false → cnt (fun k => R k i) l + 1 ≤ cnt (fun k => R k x) l := fun i hi h => by
      have hix : R i x = true := by
        rcases hto i x (hne i hi) with h' | h'
        · exact h'
        · rw [h] at h'; exact absurd h' (by simp)
      have e : cnt (fun k => R k i || decide (k = i)) l = cnt (fun k => R k i) l + cnt (fun k => decide (k = i)) l := cnt_add (fun _ _ => rfl) fun k _ hk => by
        have : k = i := by simpa using hk.2
        subst this; rw [hir] at hk; exact absurd hk.1 (by simp)
      have h1 : 1 ≤ cnt (fun k => decide (k = i)) l := cnt_pos hi (by simp)
      have h2 : cnt (fun k => R k i || decide (k = i)) l ≤ cnt (fun k => R k x) l := cnt_mono fun k _ hk => by
        rcases Bool.or_eq_true _ _ ▸ hk with hk | hk
        · exact htr k i x hk hix
        · have : k = i := by simpa using hk
          subst this; exact hix
      omega
    have hc : ∀ i, cnt (fun k => R k i) (x :: l) = (if R x i = true then 1 else 0) + cnt (fun k => R k i) l := fun _ => rfl
    have hcx : cnt (fun k => R k x) (x :: l) = cnt (fun k => R k x) l := by rw [hc, hir]; simp
    show (if decide (cnt (fun k => R k x) (x :: l) < t) = true then 1 else 0) + cnt (fun i => decide (cnt (fun k => R k i) (x :: l) < t)) l = min t (l.length + 1)
    by_cases ht : t ≤ cnt (fun k => R k x) l
    · have e : cnt (fun i => decide (cnt (fun k => R k i) (x :: l) < t)) l = cnt (fun i => decide (cnt (fun k => R k i) l < t)) l := cnt_congr fun i hi => by
        have h1 := hc i
        cases h : R x i
        · rw [h] at h1; rw [decide_eq_decide]; simp only [Bool.false_eq_true, if_false] at h1; omega
        · have := hlo i hi h
          rw [h] at h1; rw [decide_eq_decide]; simp only [if_true] at h1; omega
      rw [e, ih t, if_neg (by simp; omega)]
      omega
    · have e : cnt (fun i => decide (cnt (fun k => R k i) (x :: l) < t)) l = cnt (fun i => decide (cnt (fun k => R k i) l < t - 1)) l := cnt_congr fun i hi => by
        have h1 := hc i
        cases h : R x i
        · have := hhi i hi h
          rw [h] at h1; rw [decide_eq_decide]; simp only [Bool.false_eq_true, if_false] at h1; omega
        · rw [h] at h1; rw [decide_eq_decide]; simp only [if_true] at h1; omega
      rw [e, ih (t - 1), if_pos (by simp; omega)]
      omega
theorem cntF_eq (p : Nat → Bool) : ∀ n, cntF p n = (cnt p (List.range n) : Int)
  | 0 => rfl
  | n + 1 => by rw [List.range_succ, cnt_append, cntF, cntF_eq p n]; simp only [cnt]; split <;> simp
def sumF (g : Nat → Int) : Nat → Int
  | 0 => 0
  | k + 1 => sumF g k + g k
theorem sumL_append (l : List Int) (x : Int) : sumL (l ++ [x]) = sumL l + x := by simp [sumL]
theorem sumL_tab (n : Nat) (o : Nat → Int) : sumL (tab n o) = sumF o n := by
  induction n with
  | zero => rfl
  | succ n ih => rw [tab, List.range_succ, List.map_append]; simp only [List.map_cons, List.map_nil]; rw [sumL_append]; rw [tab] at ih; rw [ih]; rfl
theorem sumF_congr {g h : Nat → Int} : ∀ {n : Nat}, (∀ i, i < n → g i = h i) → sumF g n = sumF h n
  | 0, _ => rfl
  | n + 1, e => by simp only [sumF]; rw [sumF_congr (fun i hi => e i (by omega)), e n (by omega)]
theorem sumF_add {g h k : Nat → Int} : ∀ {n : Nat}, (∀ i, i < n → k i = g i + h i) → sumF k n = sumF g n + sumF h n
  | 0, _ => rfl
  | n + 1, e => by simp only [sumF]; rw [sumF_add (fun i hi => e i (by omega)), e n (by omega)]; omega
theorem sumF_le {g h : Nat → Int} : ∀ {n : Nat}, (∀ i, i < n → g i ≤ h i) → sumF g n ≤ sumF h n
  | 0, _ => Int.le_refl _
  | n + 1, e => by simp only [sumF]; have := sumF_le (g := g) (h := h) (n := n) (fun i hi => e i (by omega)); have := e n (by omega); omega
theorem sumF_mul {g : Nat → Int} (c : Int) : ∀ {n : Nat}, sumF (fun i => c * g i) n = c * sumF g n
  | 0 => by simp [sumF]
  | n + 1 => by simp only [sumF]; rw [sumF_mul c, Int.mul_add]
theorem sumF_zero : ∀ {n : Nat} {g : Nat → Int}, (∀ i, i < n → g i = 0) → sumF g n = 0
  | 0, _, _ => rfl
  | n + 1, g, e => by simp only [sumF]; rw [sumF_zero (fun i hi => e i (by omega)), e n (by omega)]; rfl
theorem sumF_cnt (p : Nat → Bool) : ∀ n, sumF (fun i => if p i = true then 1 else 0) n = cntF p n
  | 0 => rfl
  | n + 1 => by simp only [sumF, cntF, sumF_cnt p n]
theorem unitsF_sum (ms : List Mem) (f : Nat → Bool) : ∀ n, unitsF ms f n = sumF (fun i => if f i = true then un ms i else 0) n
  | 0 => rfl
  | n + 1 => by simp only [unitsF, sumF, unitsF_sum ms f n]
theorem leftF_sum (ms : List Mem) (f : Nat → Bool) (need U : Int) : ∀ n, leftF ms f need U n = need - sumF (fun i => if f i = true then quo ms need U i else 0) n
  | 0 => by simp [leftF, sumF]
  | n + 1 => by simp only [leftF, sumF, leftF_sum ms f need U n]; omega
theorem needF_sum (ms : List Mem) (c : Nat → Bool) (need : Int) : ∀ n, needF ms c need n = need - sumF (fun i => if c i = true then mst ms i else 0) n
  | 0 => by simp [needF, sumF]
  | n + 1 => by simp only [needF, sumF, needF_sum ms c need n]; omega
def befR (ms : List Mem) (need U : Int) (k i : Nat) : Bool := decide (rst ms need U i < rst ms need U k) || (decide (rst ms need U k = rst ms need U i) && decide (k < i))
theorem befR_irr (ms : List Mem) (need U : Int) (a : Nat) : befR ms need U a a = false := by simp [befR]
theorem befR_tr (ms : List Mem) (need U : Int) (a b c : Nat) (h1 : befR ms need U a b = true) (h2 : befR ms need U b c = true) : befR ms need U a c = true := by
  simp only [befR, Bool.or_eq_true, Bool.and_eq_true, decide_eq_true_eq] at *; omega
theorem befR_to (ms : List Mem) (need U : Int) (a b : Nat) (h : a ≠ b) : befR ms need U a b = true ∨ befR ms need U b a = true := by
  simp only [befR, Bool.or_eq_true, Bool.and_eq_true, decide_eq_true_eq]; omega
def whoL (f : Nat → Bool) (n : Nat) : List Nat := (List.range n).filter f
theorem whoL_nodup (f : Nat → Bool) (n : Nat) : (whoL f n).Nodup := List.nodup_range.filter _
theorem whoL_mem {f : Nat → Bool} {n i : Nat} : i ∈ whoL f n ↔ i < n ∧ f i = true := by simp [whoL]
theorem cntF_prefix {p : Nat → Bool} {i : Nat} : ∀ {n : Nat}, i ≤ n → cntF p i = cntF (fun k => p k && decide (k < i)) n
  | 0, h => by have : i = 0 := by omega
               subst this; rfl
  | n + 1, h => by
    rcases Nat.lt_or_ge i (n + 1) with h' | h'
    · simp only [cntF]; rw [cntF_prefix (n := n) (by omega)]
      have : ¬ (p n && decide (n < i)) = true := by simp; omega
      rw [if_neg this]; omega
    · have : i = n + 1 := by omega
      subst this
      rw [cntF_eq, cntF_eq]; congr 1
      exact cnt_congr fun k hk => by simp only [List.mem_range] at hk; simp [hk]
theorem beforeF_rank (ms : List Mem) (f : Nat → Bool) (need U : Int) {i : Nat} (hi : i < ms.length) : beforeF ms f need U i = (cnt (fun k => befR ms need U k i) (whoL f ms.length) : Int) := by
  rw [beforeF, cntF_prefix (i := i) (n := ms.length) (by omega), cntF_eq, cntF_eq, whoL, cnt_filter]
  rw [cnt_add (r := fun k => f k && befR ms need U k i) (p := fun k => f k && decide (rst ms need U i < rst ms need U k)) (q := fun k => (f k && decide (rst ms need U k = rst ms need U i)) && decide (k < i))]
  · simp
  · intro k _; simp only [befR]; cases f k <;> simp
  · intro k _ h
    simp only [Bool.and_eq_true, decide_eq_true_eq] at h; omega
theorem cnt_before (ms : List Mem) (f : Nat → Bool) (need U t : Int) (h0 : 0 ≤ t) (h1 : t ≤ cntF f ms.length) : cntF (fun i => f i && decide (beforeF ms f need U i < t)) ms.length = t := by
  have h := cnt_rank (befR ms need U) (befR_irr ms need U) (befR_tr ms need U) (befR_to ms need U) _ (whoL_nodup f ms.length) t.toNat
  have hl : cntF f ms.length = ((whoL f ms.length).length : Int) := by
    rw [cntF_eq, ← cnt_true (p := f) (l := whoL f ms.length) fun i hi => (whoL_mem.1 hi).2, whoL, cnt_filter]
    congr 1; exact cnt_congr fun x _ => by simp
  rw [whoL, cnt_filter] at h
  rw [cntF_eq, cnt_congr (q := fun x => f x && decide (cnt (fun k => befR ms need U k x) (List.filter f (List.range ms.length)) < t.toNat)), h]
  · rw [whoL] at hl; omega
  · intro i hi
    simp only [List.mem_range] at hi
    rw [beforeF_rank ms f need U hi, whoL]
    congr 1
    rw [decide_eq_decide]; omega
theorem sumF_share (ms : List Mem) (f : Nat → Bool) (need : Int) (hU : 1 ≤ unitsF ms f ms.length) :
    (0 ≤ leftF ms f need (unitsF ms f ms.length) ms.length ∧ leftF ms f need (unitsF ms f ms.length) ms.length < cntF f ms.length) ∧ sumF (shareF ms f need) ms.length = need := by
  generalize hUe : unitsF ms f ms.length = U at *
  have hr : ∀ i, 0 ≤ rst ms need U i ∧ rst ms need U i < U := fun i => ⟨Int.emod_nonneg _ (by omega), Int.emod_lt_of_pos _ (by omega)⟩
  have hq : ∀ i, need * un ms i = U * quo ms need U i + rst ms need U i := fun i => by have := Int.mul_ediv_add_emod (need * un ms i) U; simp only [quo, rst]; omega
  have hs : need * U = U * sumF (fun i => if f i = true then quo ms need U i else 0) ms.length + sumF (fun i => if f i = true then rst ms need U i else 0) ms.length := by
    conv => lhs; rw [← hUe, unitsF_sum]
    rw [← sumF_mul, ← sumF_mul]
    refine sumF_add fun i _ => ?_
    split
    · exact hq i
    · simp
  have hl := leftF_sum ms f need U ms.length
  have hR : U * leftF ms f need U ms.length = sumF (fun i => if f i = true then rst ms need U i else 0) ms.length := by
    rw [hl, Int.mul_sub]; rw [Int.mul_comm] at hs; omega
  have h0 : 0 ≤ sumF (fun i => if f i = true then rst ms need U i else 0) ms.length := by
    have := sumF_le (g := fun _ => 0) (h := fun i => if f i = true then rst ms need U i else 0) (n := ms.length) fun i _ => by have := hr i; split <;> omega
    rw [sumF_zero fun _ _ => rfl] at this; exact this
  have h1 : sumF (fun i => if f i = true then rst ms need U i else 0) ms.length ≤ (U - 1) * cntF f ms.length := by
    rw [← sumF_cnt, ← sumF_mul]
    exact sumF_le fun i _ => by have := hr i; split <;> omega
  rw [← hR] at h0 h1
  have hc : 0 < cntF f ms.length := by
    have h := cntF_eq f ms.length
    rcases Int.lt_or_le 0 (cntF f ms.length) with h' | h'
    · exact h'
    · exfalso
      have h2 : cnt f (List.range ms.length) = 0 := by omega
      have : unitsF ms f ms.length = 0 := by
        rw [unitsF_sum]; refine sumF_zero fun i hi => ?_
        split
        · rename_i hf; have := cnt_pos (l := List.range ms.length) (List.mem_range.2 hi) hf; omega
        · rfl
      omega
  have hA : 0 ≤ leftF ms f need U ms.length := by
    rcases Int.lt_or_le (leftF ms f need U ms.length) 0 with h | h
    · have := Int.mul_neg_of_pos_of_neg (show 0 < U by omega) h; omega
    · exact h
  have hB : leftF ms f need U ms.length < cntF f ms.length := by
    rcases Int.lt_or_le (leftF ms f need U ms.length) (cntF f ms.length) with h | h
    · exact h
    · have h2 := Int.mul_le_mul_of_nonneg_left h (show 0 ≤ U by omega)
      rw [Int.sub_mul] at h1; omega
  refine ⟨⟨hA, hB⟩, ?_⟩
  have hS : sumF (shareF ms f need) ms.length = sumF (fun i => if f i = true then quo ms need U i else 0) ms.length + sumF (fun i => if (f i && decide (beforeF ms f need U i < leftF ms f need U ms.length)) = true then 1 else 0) ms.length :=
    sumF_add fun i hi => by
      simp only [shareF, hUe, hi, true_and]
      cases f i <;> simp
  rw [hS, sumF_cnt, cnt_before ms f need U _ hA (by omega)]
  omega
end Go.Proofs.YtjadiajfbflghaaGreat
set_option linter.unusedSimpArgs false
set_option linter.unusedVariables false
namespace Go.Proofs.YtjadiajfbflghaaGreat
def OkMs (ms : List Mem) : Prop := ms.length ≤ 5 ∧ ∀ i, i < ms.length → 1 ≤ un ms i ∧ 0 ≤ mst ms i
theorem any5_false {f : Nat → Bool} (h : any5 f = false) : ∀ i, i < 5 → f i = false := by
  intro i hi
  simp only [any5, Bool.or_eq_false_iff] at h
  have : i = 0 ∨ i = 1 ∨ i = 2 ∨ i = 3 ∨ i = 4 := by omega
  rcases this with rfl | rfl | rfl | rfl | rfl
  · exact h.1
  · exact h.2.1
  · exact h.2.2.1
  · exact h.2.2.2.1
  · exact h.2.2.2.2
theorem any5_true {f : Nat → Bool} (h : ¬ any5 f = false) : ∃ i, i < 5 ∧ f i = true := by
  simp only [any5, Bool.or_eq_false_iff] at h
  by_cases h0 : f 0 = true
  · exact ⟨0, by omega, h0⟩
  by_cases h1 : f 1 = true
  · exact ⟨1, by omega, h1⟩
  by_cases h2 : f 2 = true
  · exact ⟨2, by omega, h2⟩
  by_cases h3 : f 3 = true
  · exact ⟨3, by omega, h3⟩
  by_cases h4 : f 4 = true
  · exact ⟨4, by omega, h4⟩
  simp_all
theorem sumF_pos {g : Nat → Int} : ∀ {n i : Nat}, (∀ k, k < n → 0 ≤ g k) → i < n → g i ≤ sumF g n
  | n + 1, i, h, hi => by
    have h0 : ∀ m, m ≤ n → 0 ≤ sumF g m := fun m hm => by
      have := sumF_le (g := fun _ => 0) (h := g) (n := m) fun k hk => h k (by omega)
      rw [sumF_zero fun _ _ => rfl] at this; exact this
    simp only [sumF]
    rcases Nat.lt_or_ge i n with h' | h'
    · have := sumF_pos (g := g) (n := n) (i := i) (fun k hk => h k (by omega)) h'
      have := h n (by omega); omega
    · have : i = n := by omega
      subst this; have := h0 i (by omega); omega
theorem OkMs.units {ms : List Mem} (h : OkMs ms) {f : Nat → Bool} {i : Nat} (hi : i < ms.length) (hf : f i = true) : un ms i ≤ unitsF ms f ms.length ∧ 1 ≤ unitsF ms f ms.length := by
  have h1 := sumF_pos (g := fun i => if f i = true then un ms i else 0) (n := ms.length) (i := i) (fun k hk => by have := h.2 k hk; split <;> omega) hi
  rw [← unitsF_sum] at h1
  simp only [hf, if_true] at h1
  have := h.2 i hi
  omega
theorem quo_nn {ms : List Mem} {need U : Int} {i : Nat} (hn : 0 ≤ need) (hU : 1 ≤ U) (hu : 0 ≤ un ms i) : 0 ≤ quo ms need U i :=
  Int.ediv_nonneg (Int.mul_nonneg hn hu) (by omega)
theorem shareF_nn {ms : List Mem} (h : OkMs ms) {f : Nat → Bool} {need : Int} (hn : 0 ≤ need) (i : Nat) : 0 ≤ shareF ms f need i := by
  unfold shareF
  split
  · rename_i hi
    have h1 := h.units hi.1 hi.2
    have h2 := quo_nn (ms := ms) (i := i) hn h1.2 (by have := h.2 i hi.1; omega)
    split <;> omega
  · omega
structure Paid (ms : List Mem) (f : Nat → Bool) (need : Int) (o : Nat → Int) (r : (Nat → Int) × Int) : Prop where
  other : ∀ i, f i = false → r.1 i = o i
  most : ∀ i, f i = true → 0 ≤ r.1 i ∧ r.1 i ≤ mst ms i
  sum : r.2 + sumF (fun i => if f i = true then r.1 i else 0) ms.length = need
  nn : 0 ≤ r.2
  short : 0 < r.2 → ∀ i, f i = true → r.1 i = mst ms i
theorem capF_t {ms : List Mem} {f : Nat → Bool} {need : Int} {i : Nat} : capF ms f need i = true ↔ i < ms.length ∧ f i = true ∧ mst ms i < shareF ms f need i := by simp [capF]
theorem needF_nn {ms : List Mem} (h : OkMs ms) {f : Nat → Bool} {need : Int} (hn : 0 ≤ need) (hf : any5 f ≠ false) (hlt : ∀ i, f i = true → i < ms.length) : 0 ≤ needF ms (capF ms f need) need ms.length := by
  obtain ⟨i, _, hi⟩ := any5_true hf
  have hs := (sumF_share ms f need (h.units (hlt i hi) hi).2).2
  rw [needF_sum]
  have : sumF (fun i => if capF ms f need i = true then mst ms i else 0) ms.length ≤ sumF (shareF ms f need) ms.length := sumF_le fun k _ => by
    have := shareF_nn h (f := f) hn k
    split
    · rename_i hc; have := (capF_t.1 hc).2.2; omega
    · omega
  omega
theorem cntF_mono_lt {p q : Nat → Bool} {n i : Nat} (hi : i < n) (hle : ∀ k, p k = true → q k = true) (hp : p i = false) (hq : q i = true) : cntF p n < cntF q n := by
  have e : cnt q (List.range n) = cnt p (List.range n) + cnt (fun k => q k && !p k) (List.range n) := cnt_add (fun k _ => by have := hle k; cases h : p k <;> cases h' : q k <;> simp_all) (fun k _ => by cases p k <;> simp)
  have : 1 ≤ cnt (fun k => q k && !p k) (List.range n) := cnt_pos (List.mem_range.2 hi) (by simp [hp, hq])
  rw [cntF_eq, cntF_eq]; omega
theorem callsF_paid {ms : List Mem} (h : OkMs ms) : ∀ (t : Nat) (f : Nat → Bool) (need : Int) (o : Nat → Int), cntF f ms.length < t → (∀ i, f i = true → i < ms.length) → 0 ≤ need → Paid ms f need o (callsF ms t f need o)
  | 0, f, need, o, hc, _, _ => by have := cntF_eq f ms.length; omega
  | t + 1, f, need, o, hc, hlt, hn => by
    have h5 := h.1
    rw [callsF]
    split
    · rename_i hf
      have hf' : ∀ i, f i = false := fun i => by
        cases hfi : f i
        · rfl
        · rw [← hfi]; exact any5_false hf i (by have := hlt i hfi; omega)
      refine ⟨fun _ _ => rfl, fun i hi => absurd hi (by simp [hf' i]), ?_, hn, fun _ i hi => absurd hi (by simp [hf' i])⟩
      rw [sumF_zero fun i _ => by simp [hf' i]]; simp
    · rename_i hf
      obtain ⟨j, _, hj⟩ := any5_true hf
      have hs := (sumF_share ms f need (h.units (hlt j hj) hj).2).2
      split
      · rename_i hcap
        refine ⟨fun i hi => by simp [hi], fun i hi => ?_, ?_, Int.le_refl _, fun h => absurd h (by simp)⟩
        · have hi' := hlt i hi
          have hcf := any5_false hcap i (by omega)
          simp only [hi, hi', and_self, if_true]
          refine ⟨shareF_nn h hn i, ?_⟩
          rcases Int.lt_or_le (mst ms i) (shareF ms f need i) with h' | h'
          · have := capF_t.2 ⟨hi', hi, h'⟩; rw [hcf] at this; cases this
          · exact h'
        · conv => rhs; rw [← hs]
          simp only [Int.zero_add]
          refine sumF_congr fun i hi => ?_
          cases hfi : f i
          · simp [shareF, hfi]
          · simp [hi]
      · rename_i hcap
        obtain ⟨c, _, hcc⟩ := any5_true hcap
        have hct := capF_t.1 hcc
        have ih := callsF_paid h t (fun i => f i && !capF ms f need i) (needF ms (capF ms f need) need ms.length) (fun i => if capF ms f need i = true then mst ms i else o i)
          (by have := cntF_mono_lt (p := fun i => f i && !capF ms f need i) (q := f) hct.1 (fun k hk => by simp at hk; exact hk.1) (by simp [hcc]) hct.2.1; omega)
          (fun i hi => hlt i (by simp at hi; exact hi.1)) (needF_nn h hn hf hlt)
        generalize callsF ms t _ _ _ = r at *
        obtain ⟨i1, i2, i3, i4, i5⟩ := ih
        have hcap1 : ∀ i, capF ms f need i = true → r.1 i = mst ms i := fun i hi => by rw [i1 i (by simp [hi])]; simp [hi]
        have hcm : ∀ i, capF ms f need i = true → 0 ≤ mst ms i := fun i hi => (h.2 i (capF_t.1 hi).1).2
        refine ⟨fun i hi => ?_, fun i hi => ?_, ?_, i4, fun hz i hi => ?_⟩
        · rw [i1 i (by simp [hi])]
          have : ¬ capF ms f need i = true := fun hc => by have := (capF_t.1 hc).2.1; rw [hi] at this; cases this
          simp [this]
        · cases hc : capF ms f need i
          · exact i2 i (by simp [hi, hc])
          · rw [hcap1 i hc]; exact ⟨hcm i hc, Int.le_refl _⟩
        · rw [needF_sum] at i3
          have : sumF (fun i => if f i = true then r.1 i else 0) ms.length = sumF (fun i => if (f i && !capF ms f need i) = true then r.1 i else 0) ms.length + sumF (fun i => if capF ms f need i = true then mst ms i else 0) ms.length := sumF_add fun i _ => by
            cases hc : capF ms f need i
            · simp
            · simp [(capF_t.1 hc).2.1, hcap1 i hc]
          omega
        · cases hc : capF ms f need i
          · exact i5 hz i (by simp [hi, hc])
          · exact hcap1 i hc
end Go.Proofs.YtjadiajfbflghaaGreat
set_option linter.unusedSimpArgs false
set_option linter.unusedVariables false
namespace Go.Proofs.YtjadiajfbflghaaGreat
def putB (bs : List Rng) (k : Nat) (n : Int) : List Rng := match bs[k]? with
  | none => bs ++ [⟨n, n⟩]
  | some r => bs.set k ⟨min r.lo n, max r.hi n⟩
def stepB : List Rng → Nat → List Int → List Rng
  | bs, _, [] => bs
  | bs, k, n :: l => stepB (putB bs k n) (k + 1) l
def foldB (F : Int → List Int) (ns : List Int) : List Rng := ns.foldl (fun bs n => stepB bs 0 (F n)) []
theorem putB_len {bs : List Rng} {k : Nat} {n : Int} (h : k ≤ bs.length) : k + 1 ≤ (putB bs k n).length ∧ bs.length ≤ (putB bs k n).length ∧ (putB bs k n).length ≤ max bs.length (k + 1) := by
  unfold putB
  split
  · rename_i e; rw [List.getElem?_eq_none_iff] at e; simp; omega
  · rename_i e; have := (List.getElem?_eq_some_iff.1 e).1; simp; omega
theorem stepB_len : ∀ {bs : List Rng} {k : Nat} {l : List Int}, k ≤ bs.length → (stepB bs k l).length ≤ max bs.length (k + l.length)
  | bs, k, [], h => by simp [stepB]; omega
  | bs, k, n :: l, h => by
    have h1 := putB_len (n := n) h
    have h2 := stepB_len (bs := putB bs k n) (k := k + 1) (l := l) h1.1
    simp only [stepB, List.length_cons]; omega
theorem putB_app {bs : List Rng} {n : Int} : putB bs bs.length n = bs ++ [⟨n, n⟩] := by
  unfold putB; rw [List.getElem?_eq_none (Nat.le_refl _)]
theorem stepB_app : ∀ {bs : List Rng} {l : List Int}, stepB bs bs.length l = bs ++ l.map fun n => ⟨n, n⟩
  | bs, [] => by simp [stepB]
  | bs, n :: l => by
    rw [stepB, putB_app]
    have := stepB_app (bs := bs ++ [⟨n, n⟩]) (l := l)
    rw [List.length_append] at this
    simp only [List.length_singleton] at this
    rw [this]; simp
def uB (r : Rng) (n : Int) : Rng := ⟨min r.lo n, max r.hi n⟩
theorem stepB_upd : ∀ {a b : List Rng} {l : List Int}, b.length = l.length → stepB (a ++ b) a.length l = a ++ List.zipWith uB b l
  | a, [], [], _ => by simp [stepB]
  | a, r :: b, n :: l, h => by
    have e : putB (a ++ r :: b) a.length n = (a ++ [uB r n]) ++ b := by
      unfold putB
      rw [List.getElem?_append_right (Nat.le_refl _)]
      simp [uB]
    rw [stepB, e]
    have := stepB_upd (a := a ++ [uB r n]) (b := b) (l := l) (by simpa using h)
    rw [List.length_append] at this
    simp only [List.length_singleton] at this
    rw [this]; simp
def bndF (g : Int → Int) : List Int → Rng
  | [] => ⟨0, 0⟩
  | n :: l => l.foldl (fun r n => uB r (g n)) ⟨g n, g n⟩
theorem zip_range (m : Nat) (h : Nat → Rng) (g : Nat → Int) : List.zipWith uB ((List.range m).map h) (tab m g) = (List.range m).map fun k => uB (h k) (g k) := by
  rw [tab]
  induction List.range m with
  | nil => rfl
  | cons a l ih => simp [ih]
theorem foldB_eq (m : Nat) (g : Int → Nat → Int) : ∀ (ns : List Int), ns ≠ [] → foldB (fun n => tab m (g n)) ns = (List.range m).map fun k => bndF (fun n => g n k) ns
  | [], h => absurd rfl h
  | n :: l, _ => by
    have h : ∀ (l : List Int) (h : Nat → Rng), l.foldl (fun bs n => stepB bs 0 (tab m (g n))) ((List.range m).map h) = (List.range m).map fun k => l.foldl (fun r n => uB r (g n k)) (h k) := by
      intro l
      induction l with
      | nil => intro h; rfl
      | cons a l ih =>
        intro h
        simp only [List.foldl_cons]
        have := stepB_upd (a := []) (b := (List.range m).map h) (l := tab m (g a)) (by simp [tab])
        simp only [List.nil_append, List.length_nil] at this
        rw [this, zip_range, ih]
    have h0 : stepB [] 0 (tab m (g n)) = (List.range m).map fun k => ⟨g n k, g n k⟩ := by
      have := stepB_app (bs := []) (l := tab m (g n))
      simp only [List.nil_append, List.length_nil] at this
      rw [this, tab, List.map_map]; rfl
    rw [foldB, List.foldl_cons, h0, h]; rfl
theorem bndF_is (g : Int → Int) : ∀ (ns : List Int), ns ≠ [] → (∃ n ∈ ns, g n = (bndF g ns).lo) ∧ (∃ n ∈ ns, g n = (bndF g ns).hi) ∧ ∀ n ∈ ns, (bndF g ns).lo ≤ g n ∧ g n ≤ (bndF g ns).hi
  | [], h => absurd rfl h
  | n :: l, _ => by
    have h : ∀ (l : List Int) (r : Rng), (((l.foldl (fun r n => uB r (g n)) r).lo = r.lo ∨ ∃ n ∈ l, g n = (l.foldl (fun r n => uB r (g n)) r).lo) ∧ ((l.foldl (fun r n => uB r (g n)) r).hi = r.hi ∨ ∃ n ∈ l, g n = (l.foldl (fun r n => uB r (g n)) r).hi)) ∧
        ((l.foldl (fun r n => uB r (g n)) r).lo ≤ r.lo ∧ r.hi ≤ (l.foldl (fun r n => uB r (g n)) r).hi) ∧ ∀ n ∈ l, (l.foldl (fun r n => uB r (g n)) r).lo ≤ g n ∧ g n ≤ (l.foldl (fun r n => uB r (g n)) r).hi := by
      intro l
      induction l with
      | nil => intro r; simp
      | cons a l ih =>
        intro r
        obtain ⟨⟨h1, h2⟩, ⟨h3, h4⟩, h5⟩ := ih (uB r (g a))
        simp only [List.foldl_cons, List.mem_cons, forall_eq_or_imp, exists_eq_or_imp]
        generalize List.foldl (fun r n => uB r (g n)) (uB r (g a)) l = R at *
        simp only [uB] at h1 h2 h3 h4
        refine ⟨⟨?_, ?_⟩, by omega, by omega, h5⟩
        · rcases h1 with h1 | h1
          · by_cases h : r.lo ≤ g a
            · exact .inl (by omega)
            · exact .inr (.inl (by omega))
          · exact .inr (.inr h1)
        · rcases h2 with h2 | h2
          · by_cases h : g a ≤ r.hi
            · exact .inl (by omega)
            · exact .inr (.inl (by omega))
          · exact .inr (.inr h2)
    obtain ⟨⟨h1, h2⟩, ⟨h3, h4⟩, h5⟩ := h l ⟨g n, g n⟩
    simp only [bndF, List.mem_cons, forall_eq_or_imp, exists_eq_or_imp]
    generalize List.foldl (fun r n => uB r (g n)) ⟨g n, g n⟩ l = R at *
    dsimp only at h1 h2 h3 h4
    exact ⟨h1.imp_left Eq.symm, h2.imp_left Eq.symm, ⟨h3, h4⟩, h5⟩
def every (r : Rng) : List Int := (List.range (r.hi - r.lo + 1).toNat).map fun (i : Nat) => r.lo + i
theorem every_mem {r : Rng} {n : Int} : n ∈ every r ↔ r.lo ≤ n ∧ n ≤ r.hi := by
  simp only [every, List.mem_map, List.mem_range]
  constructor
  · rintro ⟨i, h1, rfl⟩; omega
  · rintro ⟨h1, h2⟩; exact ⟨(n - r.lo).toNat, by omega, by omega⟩
theorem every_ne {r : Rng} (h : r.lo ≤ r.hi) : every r ≠ [] := fun e => by
  have := (every_mem (r := r) (n := r.lo)).2 ⟨Int.le_refl _, h⟩
  rw [e] at this; cases this
theorem needsOf_ok {s : Soc} (h1 : ∀ r ∈ s.losses, r.lo ≤ r.hi) (h2 : s.treaty.lo ≤ s.treaty.hi) : 0 ≤ (needsOf s).lo ∧ (needsOf s).lo ≤ (needsOf s).hi := by
  have hs : ∀ (l : List Rng) (a b : Int), (∀ r ∈ l, r.lo ≤ r.hi) → a ≤ b → (los l).foldl (· + ·) a ≤ (his l).foldl (· + ·) b := by
    intro l
    induction l with
    | nil => intro a b _ h; exact h
    | cons r l ih =>
      intro a b h hab
      have := h r List.mem_cons_self
      have h' : a + r.lo ≤ b + r.hi := by omega
      exact ih _ _ (fun x hx => h x (List.mem_cons_of_mem _ hx)) h'
  have := hs s.losses 0 0 h1 (Int.le_refl _)
  simp only [needsOf, needOf, sumL]; omega
end Go.Proofs.YtjadiajfbflghaaGreat
set_option linter.unusedSimpArgs false
set_option linter.unusedVariables false
open Go Go.TV
namespace Go.Proofs.YtjadiajfbflghaaGreat
theorem c194 (r : Rng) : PF Tryz.prog 194 [encR r] (· = .fn 239 [] [.iptr (encR r) 0]) := by
  refine PF.of (TF.ev fn_194 (Ev.at ?_))
  (repeat' (first | (refine Ev.go ?_; conv => whnf) | refine And.intro ?_ ?_ | exact True.intro | exact rfl | (intro rx hrx; rw [ij _ (by omega)] at hrx) | (intro hcx; exfalso; omega) | (intro hcx; exfalso; simp only [lz] at hcx; omega) | intro _))
theorem it95 (r : Rng) (h1 : 0 ≤ r.lo) (h2 : r.lo ≤ r.hi) (h3 : r.hi ≤ 10000000) : IT Tryz.prog 239 [] [.iptr (encR r) 0] ((every r).map fun n => [.int .i64 n]) := by
  refine IT.ev fn_239 cl cl fun Φ Ψ hy => ?_
  have hlen : (every r).length = (r.hi - r.lo + 1).toNat := by simp [every]
  have hget : ∀ k : Nat, k < (r.hi - r.lo + 1).toNat → (every r)[k]? = some (r.lo + k) := fun k hk => by simp [every, List.getElem?_map, List.getElem?_range hk]
  (repeat' (first | (refine Ev.go ?_; conv => whnf) | refine And.intro ?_ ?_ | exact True.intro | exact rfl | (intro rx hrx; rw [ij _ (by omega)] at hrx) | (intro hcx; exfalso; omega) | (intro hcx; exfalso; simp only [lz] at hcx; omega) | intro _))
  subst_vars
  refine TWq.loop (fun k : Nat => [(10, .int .i64 k)]) (fun k => [(0, .tok (Φ k))]) (fun k => k ≤ (r.hi - r.lo + 1).toNat) (fun k => (r.hi - r.lo + 1).toNat - k) 0 [] [] ?_ (by omega) ?_
  · (repeat' (first | (refine Ev.go ?_; conv => whnf) | refine And.intro ?_ ?_ | exact True.intro | exact rfl | (intro rx hrx; rw [ij _ (by omega)] at hrx) | (intro hcx; exfalso; omega) | (intro hcx; exfalso; simp only [lz] at hcx; omega) | intro _))
    all_goals (first | (refine ⟨?_⟩; exact vc) | exact cl | skip)
  · intro k hk
    (repeat' (first | (refine Ev.go ?_; conv => whnf) | refine And.intro ?_ ?_ | exact True.intro | exact rfl | (intro rx hrx; rw [ij _ (by omega)] at hrx) | (intro hcx; exfalso; omega) | (intro hcx; exfalso; simp only [lz] at hcx; omega) | intro _))
    · subst hrx
      refine TSq.yield rfl rfl rfl rfl trivial rfl cl (hy k _ (hget k (by omega))) ?_ ?_
      · (repeat' (first | (refine Ev.go ?_; conv => whnf) | refine And.intro ?_ ?_ | exact True.intro | exact rfl | (intro rx hrx; rw [ij _ (by omega)] at hrx) | (intro hcx; exfalso; omega) | (intro hcx; exfalso; simp only [lz] at hcx; omega) | intro _))
        all_goals (first | (refine ⟨?_⟩; exact vc) | exact cl | skip)
        refine ⟨k + 1, by omega, by omega, ?_⟩
        (repeat' (first | (refine Ev.go ?_; conv => whnf) | refine And.intro ?_ ?_ | exact True.intro | exact rfl | (intro rx hrx; rw [ij _ (by omega)] at hrx) | (intro hcx; exfalso; omega) | (intro hcx; exfalso; simp only [lz] at hcx; omega) | intro _))
        all_goals (first | (refine ⟨?_⟩; exact vc) | exact cl | skip)
      · (repeat' (first | (refine Ev.go ?_; conv => whnf) | refine And.intro ?_ ?_ | exact True.intro | exact rfl | (intro rx hrx; rw [ij _ (by omega)] at hrx) | (intro hcx; exfalso; omega) | (intro hcx; exfalso; simp only [lz] at hcx; omega) | intro _))
        exact ⟨.inr rfl⟩
    · have : k = (every r).length := by omega
      subst this
      exact ⟨.inl rfl⟩
theorem c196 (l : List Int) (n : Int) (hlen : l.length ≤ 1000000) : PF Tryz.prog 196 [.sl 1 (ints l), .int .i64 n] fun s => ∃ i : Int, s = .int .i64 i ∧ (0 ≤ i ↔ l.contains n = true) := by
  have hz := ints_len l
  refine PF.of (TF.ev fn_196 (Ev.at ?_))
  (repeat' (first | (refine Ev.go ?_; conv => whnf) | refine And.intro ?_ ?_ | exact True.intro | exact rfl | (intro rx hrx; rw [ij _ (by omega)] at hrx) | (intro hcx; exfalso; omega) | (intro hcx; exfalso; simp only [lz] at hcx; omega) | (intro ex hex; (first | obtain ⟨xx, hxx, rfl⟩ := ints_at hex | obtain ⟨xx, hxx, rfl⟩ := encYs_at hex | obtain ⟨xx, hxx, rfl⟩ := encRs_at hex); clear hex; try simp only [Int.toNat_natCast] at hxx) | intro _))
  refine TWq.loop (fun k : Nat => [(8, .int .i64 k)]) (fun _ => []) (fun k => k ≤ l.length ∧ n ∉ l.take k) (fun k => l.length - k) 0 [] [] ?_ ⟨by omega, by simp⟩ ?_
  · (repeat' (first | (refine Ev.go ?_; conv => whnf) | refine And.intro ?_ ?_ | exact True.intro | exact rfl | (intro rx hrx; rw [ij _ (by omega)] at hrx) | (intro hcx; exfalso; omega) | (intro hcx; exfalso; simp only [lz] at hcx; omega) | (intro ex hex; (first | obtain ⟨xx, hxx, rfl⟩ := ints_at hex | obtain ⟨xx, hxx, rfl⟩ := encYs_at hex | obtain ⟨xx, hxx, rfl⟩ := encRs_at hex); clear hex; try simp only [Int.toNat_natCast] at hxx) | intro _))
    all_goals (first | (refine ⟨?_⟩; exact vc) | exact cl | skip)
  · rintro k ⟨hk1, hk2⟩
    (repeat' (first | (refine Ev.go ?_; conv => whnf) | refine And.intro ?_ ?_ | exact True.intro | exact rfl | (intro rx hrx; rw [ij _ (by omega)] at hrx) | (intro hcx; exfalso; omega) | (intro hcx; exfalso; simp only [lz] at hcx; omega) | (intro ex hex; (first | obtain ⟨xx, hxx, rfl⟩ := ints_at hex | obtain ⟨xx, hxx, rfl⟩ := encYs_at hex | obtain ⟨xx, hxx, rfl⟩ := encRs_at hex); clear hex; try simp only [Int.toNat_natCast] at hxx) | intro _))
    all_goals (try (refine ⟨?_⟩; first | omega | exact List.cons_ne_nil _ _ | (show (_ : Nat) * _ ≤ _; simp [catS, repl, chunks, ints_len, encYs_len] <;> omega)))
    · refine ⟨k, rfl, ?_⟩
      have : n ∈ l := by have := List.mem_of_getElem? hxx; simp_all
      simp [this]
    · refine ⟨k + 1, ⟨by omega, ?_⟩, by omega, ?_⟩
      · rw [take_snoc hxx]; simp_all
      · (repeat' (first | (refine Ev.go ?_; conv => whnf) | refine And.intro ?_ ?_ | exact True.intro | exact rfl | (intro rx hrx; rw [ij _ (by omega)] at hrx) | (intro hcx; exfalso; omega) | (intro hcx; exfalso; simp only [lz] at hcx; omega) | (intro ex hex; (first | obtain ⟨xx, hxx, rfl⟩ := ints_at hex | obtain ⟨xx, hxx, rfl⟩ := encYs_at hex | obtain ⟨xx, hxx, rfl⟩ := encRs_at hex); clear hex; try simp only [Int.toNat_natCast] at hxx) | intro _))
        all_goals (first | (refine ⟨?_⟩; exact vc) | exact cl | skip)
    · have : k = l.length := by omega
      subst this
      rw [List.take_length] at hk2
      exact ⟨-1, rfl, by simp [hk2]⟩
theorem c133 (l : List Int) (n : Int) (hlen : l.length ≤ 1000000) : PF Tryz.prog 133 [.sl 1 (ints l), .int .i64 n] (· = .bool (l.contains n)) := by
  refine PF.of (TF.ev fn_133 (Ev.at ?_))
  (repeat' (first | (refine Ev.go ?_; conv => whnf) | refine And.intro ?_ ?_ | exact True.intro | exact rfl | (intro rx hrx; rw [ij _ (by omega)] at hrx) | (intro hcx; exfalso; omega) | (intro hcx; exfalso; simp only [lz] at hcx; omega) | intro _))
  refine TSq.pureQ rfl (c196 l n hlen) cl rfl (And.intro rfl rfl) ?_
  rintro s ⟨i, rfl, hi⟩ _
  (repeat' (first | (refine Ev.go ?_; conv => whnf) | refine And.intro ?_ ?_ | exact True.intro | exact rfl | (intro rx hrx; rw [ij _ (by omega)] at hrx) | (intro hcx; exfalso; omega) | (intro hcx; exfalso; simp only [lz] at hcx; omega) | intro _))
  all_goals (rw [SV.bool_iff]; rw [← hi]; simp; omega)
theorem c190 (s : Soc) (n : Int) (h : s.members.length ≤ 1000000) : PF Tryz.prog 190 [encSoc s, .int .i64 n] (· = .bool (within n 0 (s.members.length - 1))) := by
  have hz := encYs_len s.members
  refine PF.of (TF.ev fn_190 (Ev.at ?_))
  (repeat' (first | (refine Ev.go ?_; conv => whnf) | refine And.intro ?_ ?_ | exact True.intro | exact rfl | (intro rx hrx; rw [ij _ (by omega)] at hrx) | (intro hcx; exfalso; omega) | (intro hcx; exfalso; simp only [lz] at hcx; omega) | intro _))
  rw [hz] at hrx
  subst hrx
  refine TSq.pureC (c68 _ _ _) cl rfl (And.intro rfl rfl) ?_
  (repeat' (first | (refine Ev.go ?_; conv => whnf) | refine And.intro ?_ ?_ | exact True.intro | exact rfl | (intro rx hrx; rw [ij _ (by omega)] at hrx) | (intro hcx; exfalso; omega) | (intro hcx; exfalso; simp only [lz] at hcx; omega) | intro _))
  try rfl
theorem c193 (s : Soc) (h0 : s.losses.length ≤ 100) (h : ∀ r ∈ s.losses, (0 ≤ r.lo ∧ r.lo ≤ 100000) ∧ 0 ≤ r.hi ∧ r.hi ≤ 100000) (h1 : 0 ≤ s.treaty.lo ∧ s.treaty.lo ≤ 100000) (h2 : 0 ≤ s.treaty.hi ∧ s.treaty.hi ≤ 100000) (h3 : 0 ≤ s.reserve ∧ s.reserve ≤ 100000) :
    PF Tryz.prog 193 [encSoc s] (· = encR (needsOf s)) := by
  have hz := encRs_len s.losses
  have hb : ∀ k, k ≤ s.losses.length → (0 ≤ sumL ((los s.losses).take k) ∧ sumL ((los s.losses).take k) ≤ k * 100000) ∧ 0 ≤ sumL ((his s.losses).take k) ∧ sumL ((his s.losses).take k) ≤ k * 100000 := by
    intro k
    induction k with
    | zero => intro _; simp [sumL]
    | succ k ih =>
      intro hk
      have ih := ih (by omega)
      obtain ⟨r, hr⟩ : ∃ r, s.losses[k]? = some r := ⟨_, List.getElem?_eq_getElem (by omega)⟩
      have e1 : (los s.losses)[k]? = some r.lo := by simp [los, hr]
      have e2 : (his s.losses)[k]? = some r.hi := by simp [his, hr]
      rw [sumL_take e1, sumL_take e2]
      have := h r (List.mem_of_getElem? hr)
      omega
  refine PF.of (TF.ev fn_193 (Ev.at ?_))
  (repeat' (first | (refine Ev.go ?_; conv => whnf) | refine And.intro ?_ ?_ | exact True.intro | exact rfl | (intro rx hrx; rw [ij _ (by omega)] at hrx) | (intro hcx; exfalso; omega) | (intro hcx; exfalso; simp only [lz] at hcx; omega) | intro _))
  all_goals (first | (refine ⟨?_⟩; exact vc) | exact cl | skip)
  refine TWq.loop (fun k : Nat => [(9, .int .i64 k), (5, .junk)]) (fun k => [(2, .cells [.int .i64 (sumL ((los s.losses).take k)), .int .i64 (sumL ((his s.losses).take k))])]) (fun k => k ≤ s.losses.length) (fun k => s.losses.length - k) 0 [] [] ?_ (by omega) ?_
  · (repeat' (first | (refine Ev.go ?_; conv => whnf) | refine And.intro ?_ ?_ | exact True.intro | exact rfl | (intro rx hrx; rw [ij _ (by omega)] at hrx) | (intro hcx; exfalso; omega) | (intro hcx; exfalso; simp only [lz] at hcx; omega) | intro _))
    all_goals (first | (refine ⟨?_⟩; exact vc) | exact cl | skip)
  · intro k hk
    rcases Nat.lt_or_ge k s.losses.length with hkl | hkl
    · obtain ⟨r, hr⟩ : ∃ r, s.losses[k]? = some r := ⟨_, List.getElem?_eq_getElem hkl⟩
      have e1 : (los s.losses)[k]? = some r.lo := by simp [los, hr]
      have e2 : (his s.losses)[k]? = some r.hi := by simp [his, hr]
      have b := hb k hk
      have bn := hb (k + 1) (by omega)
      rw [sumL_take e1, sumL_take e2] at bn
      have hr' := h r (List.mem_of_getElem? hr)
      have hg1 : ∀ {n : Nat} {e : SV}, n = k → (encRs s.losses)[n]? = some e → e = encR r := by
        rintro n e rfl he
        obtain ⟨x, hx, rfl⟩ := encRs_at he
        rw [hr] at hx; cases hx; rfl
      (repeat' (first | (intro ex hex; have hq := hg1 (by omega) hex; subst hq; clear hex) | (refine Ev.go ?_; conv => whnf) | refine And.intro ?_ ?_ | exact True.intro | exact rfl | (intro rx hrx; rw [ij _ (by omega)] at hrx) | (intro hcx; exfalso; omega) | intro _))
      all_goals (first | (refine ⟨?_⟩; exact vc) | exact cl | skip)
      refine ⟨⟨k + 1, by omega, by omega, ?_⟩⟩
      (repeat' (first | (intro ex hex; have hq := hg1 (by omega) hex; subst hq; clear hex) | (refine Ev.go ?_; conv => whnf) | refine And.intro ?_ ?_ | exact True.intro | exact rfl | (intro rx hrx; rw [ij _ (by omega)] at hrx) | (intro hcx; exfalso; omega) | intro _))
      all_goals (first | (refine ⟨?_⟩; exact vc) | exact cl | skip)
      · refine ⟨?_⟩; rw [sumL_take e1]; assumption
      · refine ⟨?_⟩; rw [sumL_take e2]; assumption
    · have hke : k = s.losses.length := by omega
      subst hke
      have b := hb s.losses.length (by omega)
      have l1 : (los s.losses).take s.losses.length = los s.losses := List.take_of_length_le (by simp [los])
      have l2 : (his s.losses).take s.losses.length = his s.losses := List.take_of_length_le (by simp [his])
      have d1 := c65 s (sumL ((los s.losses).take s.losses.length)) s.treaty.hi (by omega) (by omega) (by omega)
      have d2 := c65 s (sumL ((his s.losses).take s.losses.length)) s.treaty.lo (by omega) (by omega) (by omega)
      (repeat' (first | (intro ex hex; have hq := hg1 (by omega) hex; subst hq; clear hex) | (refine Ev.go ?_; conv => whnf) | refine And.intro ?_ ?_ | exact True.intro | exact rfl | (intro rx hrx; rw [ij _ (by omega)] at hrx) | (intro hcx; exfalso; omega) | intro _))
      all_goals (first | (refine ⟨?_⟩; exact vc) | exact cl | skip)
      refine TDq.pureC d1 cl rfl (And.intro rfl rfl) ?_
      (repeat' (first | (intro ex hex; have hq := hg1 (by omega) hex; subst hq; clear hex) | (refine Ev.go ?_; conv => whnf) | refine And.intro ?_ ?_ | exact True.intro | exact rfl | (intro rx hrx; rw [ij _ (by omega)] at hrx) | (intro hcx; exfalso; omega) | intro _))
      all_goals (first | (refine ⟨?_⟩; exact vc) | exact cl | skip)
      refine TDq.pureC d2 cl rfl (And.intro rfl rfl) ?_
      (repeat' (first | (intro ex hex; have hq := hg1 (by omega) hex; subst hq; clear hex) | (refine Ev.go ?_; conv => whnf) | refine And.intro ?_ ?_ | exact True.intro | exact rfl | (intro rx hrx; rw [ij _ (by omega)] at hrx) | (intro hcx; exfalso; omega) | intro _))
      all_goals (first | (refine ⟨?_⟩; exact vc) | exact cl | skip)
      rw [l1, l2]
      try rfl
end Go.Proofs.YtjadiajfbflghaaGreat
set_option linter.unusedSimpArgs false
set_option linter.unusedVariables false
open Go Go.TV
namespace Go.Proofs.YtjadiajfbflghaaGreat
theorem c152 (n lo hi : Int) : PF Tryz.prog 152 [.int .i64 n, .int .i64 lo, .int .i64 hi] (· = .bool (within n lo hi)) := by
  refine PF.of (TF.ev fn_152 (Ev.at ?_))
  (repeat' (first | (refine Ev.go ?_; conv => whnf) | refine And.intro ?_ ?_ | exact True.intro | exact rfl | (intro rx hrx; rw [ij _ (by omega)] at hrx) | (intro hcx; exfalso; omega) | (intro hcx; exfalso; simp only [lz] at hcx; omega) | intro _))
  all_goals (rw [SV.bool_iff]; simp [within]; omega)
theorem c255 (n : Int) : PF Tryz.prog 255 [encI n] (· = .bool (within n 0 100)) := by
  refine PF.of (TF.ev fn_255 (Ev.at ?_))
  (repeat' (first | (refine Ev.go ?_; conv => whnf) | refine And.intro ?_ ?_ | exact True.intro | exact rfl | (intro rx hrx; rw [ij _ (by omega)] at hrx) | (intro hcx; exfalso; omega) | intro _))
  refine TSq.pureC (c152 n 0 100) cl rfl (And.intro rfl rfl) ?_
  (repeat' (first | (refine Ev.go ?_; conv => whnf) | refine And.intro ?_ ?_ | exact True.intro | exact rfl | (intro rx hrx; rw [ij _ (by omega)] at hrx) | (intro hcx; exfalso; omega) | intro _))
  try rfl
theorem c253 (t : Tf) (x : List Int) (hx : x.length ≤ 1000000) : PF Tryz.prog 253 [encIs x, .iptr (encTf t) 0] (· = .bool (t.weekB x)) := by
  have hz := ints_len x
  have hw := ints_len t.counts
  have d := alRate x (fun n => within n 0 100) (fun n _ => c255 n) hx
  refine PF.of (TF.ev fn_253 (Ev.at ?_))
  (repeat' (first | (refine Ev.go ?_; conv => whnf) | refine And.intro ?_ ?_ | exact True.intro | exact rfl | (intro rx hrx; rw [ij _ (by omega)] at hrx) | (intro hcx; exfalso; omega) | intro _))
  · refine TSq.pureC d (by simp [cloL, clo, ints_clo]) rfl (And.intro rfl rfl) ?_
    (repeat' (first | (refine Ev.go ?_; conv => whnf) | refine And.intro ?_ ?_ | exact True.intro | exact rfl | (intro rx hrx; rw [ij _ (by omega)] at hrx) | (intro hcx; exfalso; omega) | intro _))
    rw [SV.bool_iff]; simp only [Tf.weekB, Bool.and_eq_true, decide_eq_true_eq]
    exact ⟨fun h => ⟨by omega, h⟩, fun h => h.2⟩
  · rw [SV.bool_iff]; simp only [Tf.weekB, Bool.and_eq_true, decide_eq_true_eq, Bool.false_eq_true, false_iff]
    intro h; omega
theorem c229 (t : Tf) (c : List (List Int)) (hc : c.length ≤ 1000000) (hx : ∀ x ∈ c, x.length ≤ 1000000) : PF Tryz.prog 229 [encTf t, encCr c] (· = .bool (t.cropB c)) := by
  have hz := encIss_len c
  have hw := ints_len t.weeks
  have d := alWeek t c t.weekB (fun x hm => c253 t x (hx x hm)) hc
  refine PF.of (TF.ev fn_229 (Ev.at ?_))
  (repeat' (first | (refine Ev.go ?_; conv => whnf) | refine And.intro ?_ ?_ | exact True.intro | exact rfl | (intro rx hrx; rw [ij _ (by omega)] at hrx) | (intro hcx; exfalso; omega) | intro _))
  all_goals (first | (refine ⟨?_⟩; exact vc) | exact cl | skip)
  · refine TSq.lendC d (by simp [scal]) rfl (And.intro rfl ?_) ?_
    · (repeat' (first | (refine Ev.go ?_; conv => whnf) | refine And.intro ?_ ?_ | exact True.intro | exact rfl | (intro rx hrx; rw [ij _ (by omega)] at hrx) | (intro hcx; exfalso; omega) | intro _))
      all_goals (first | (refine ⟨?_⟩; exact vc) | exact cl | skip)
    (repeat' (first | (refine Ev.go ?_; conv => whnf) | refine And.intro ?_ ?_ | exact True.intro | exact rfl | (intro rx hrx; rw [ij _ (by omega)] at hrx) | (intro hcx; exfalso; omega) | intro _))
    rw [SV.bool_iff]; simp only [Tf.cropB, Bool.and_eq_true, decide_eq_true_eq]
    exact ⟨fun h => ⟨by omega, h⟩, fun h => h.2⟩
  · rw [SV.bool_iff]; simp only [Tf.cropB, Bool.and_eq_true, decide_eq_true_eq, Bool.false_eq_true, false_iff]
    intro h; omega
theorem c178 (t : Tf) : PF Tryz.prog 178 [encTf t] (· = .bool t.few) := by
  have h1 := ints_len t.weeks
  have h2 := ints_len t.counts
  have h3 := encCrs_len t.rates
  refine PF.of (TF.ev fn_178 (Ev.at ?_))
  (repeat' (first | (refine Ev.go ?_; conv => whnf) | refine And.intro ?_ ?_ | exact True.intro | exact rfl | (intro rx hrx; rw [ij _ (by omega)] at hrx) | (intro hcx; exfalso; omega) | intro _))
  all_goals (rw [SV.bool_iff]; simp only [Tf.few, Bool.and_eq_true, decide_eq_true_eq]; simp; omega)
end Go.Proofs.YtjadiajfbflghaaGreat
set_option linter.unusedSimpArgs false
set_option linter.unusedVariables false
open Go Go.TV
namespace Go.Proofs.YtjadiajfbflghaaGreat
def lastR (a : Int) : List Int → Int
  | [] => a
  | x :: l => lastR x l
theorem goR_append {m : Int} : ∀ {a : Int} {l k : List Int}, goR a m (l ++ k) = (goR a m l && goR (lastR a l) m k)
  | a, [], k => by simp [goR, lastR]
  | a, x :: l, k => by simp [goR, lastR, goR_append, Bool.and_assoc]
theorem lastR_append : ∀ {a x : Int} {l : List Int}, lastR a (l ++ [x]) = x
  | a, x, [] => rfl
  | a, x, y :: l => by simp only [List.cons_append, lastR, lastR_append]
theorem goR_false {a m : Int} {l : List Int} {k : Nat} {x : Int} (h : l[k]? = some x) (hf : within x (lastR a (l.take k) + 1) m = false) : goR a m l = false := by
  have e : l = l.take k ++ x :: l.drop (k + 1) := by
    obtain ⟨hk, hx⟩ := List.getElem?_eq_some_iff.1 h
    rw [← hx, List.getElem_cons_drop, List.take_append_drop]
  rw [e, goR_append]
  simp [goR, hf]
set_option maxHeartbeats 4000000 in
theorem c230 (l : List Int) (most : Int) (hl : l.length ≤ 1000000) (hm : 0 ≤ most ∧ most ≤ 1000) : PF Tryz.prog 230 [.sl 1 (ints l), .int .i64 most] (· = .bool (risingB l most)) := by
  have hz := ints_len l
  by_cases hpos : 0 < l.length
  · obtain ⟨v0, hv0⟩ : ∃ v, l[0]? = some v := ⟨_, List.getElem?_eq_getElem hpos⟩
    have hg1 : ∀ {n : Nat} {e : SV}, n = 0 → (ints l)[n]? = some e → e = .int .i64 v0 := by
      rintro n e rfl he
      obtain ⟨x, hx, rfl⟩ := encI_at he
      rw [hv0] at hx; cases hx; rfl
    have hh : l.head? = some v0 := by rw [← hv0]; cases l <;> rfl
    refine PF.of (TF.ev fn_230 (Ev.at ?_))
    (repeat' (first | (intro ex hex; have hq := hg1 (by omega) hex; subst hq; clear hex) | (refine Ev.go ?_; conv => whnf) | refine And.intro ?_ ?_ | exact True.intro | exact rfl | (intro rx hrx; rw [ij _ (by omega)] at hrx) | (intro hcx; exfalso; omega) | intro _))
    all_goals (try (exfalso; omega))
    all_goals (first | (refine ⟨?_⟩; exact vc) | exact cl | skip)
    · clear hg1
      rename_i hv
      have hR : risingB l most = goR (-1) most l := by simp [risingB, hpos, hh, hv]
      rw [hR]
      refine TSq.callT rfl rfl (calleeK_const (And.intro rfl rfl) (TF.ev fn_254 (Ev.at ?_)))
      (repeat' (first | (intro ex hex; have hq := hg1 (by omega) hex; subst hq; clear hex) | (refine Ev.go ?_; conv => whnf) | refine And.intro ?_ ?_ | exact True.intro | exact rfl | (intro rx hrx; rw [ij _ (by omega)] at hrx) | (intro hcx; exfalso; omega) | intro _))
      refine TSq.callT rfl rfl (calleeK_const (And.intro rfl rfl) (TF.ev fn_237 (Ev.at ?_)))
      (repeat' (first | (intro ex hex; have hq := hg1 (by omega) hex; subst hq; clear hex) | (refine Ev.go ?_; conv => whnf) | refine And.intro ?_ ?_ | exact True.intro | exact rfl | (intro rx hrx; rw [ij _ (by omega)] at hrx) | (intro hcx; exfalso; omega) | intro _))
      refine TSq.callT rfl rfl (calleeK_const (And.intro rfl rfl) (TF.ev fn_260 (Ev.at ?_)))
      dsimp only
      (repeat' (first | (intro ex hex; have hq := hg1 (by omega) hex; subst hq; clear hex) | (refine Ev.go ?_; conv => whnf) | refine And.intro ?_ ?_ | exact True.intro | exact rfl | (intro rx hrx; rw [ij _ (by omega)] at hrx) | (intro hcx; exfalso; omega) | intro _))
      refine TWq.loop (fun k : Nat => [(8, .int .i64 k), (5, .junk)]) (fun k => [(1, .cells [.int .i64 (lastR (-1) (l.take k))])]) (fun k => k ≤ l.length ∧ goR (-1) most (l.take k) = true ∧ -1 ≤ lastR (-1) (l.take k) ∧ lastR (-1) (l.take k) ≤ most) (fun k => l.length - k) 0 [] [] ?_ ⟨by omega, rfl, by simp [lastR], by simp [lastR]; omega⟩ ?_
      · (repeat' (first | (intro ex hex; have hq := hg1 (by omega) hex; subst hq; clear hex) | (refine Ev.go ?_; conv => whnf) | refine And.intro ?_ ?_ | exact True.intro | exact rfl | (intro rx hrx; rw [ij _ (by omega)] at hrx) | (intro hcx; exfalso; omega) | intro _))
        all_goals (first | (refine ⟨?_⟩; exact vc) | exact cl | skip)
      · rintro k ⟨hk, hgo, hlo, hhi⟩
        rcases Nat.lt_or_ge k l.length with hkl | hkl
        · obtain ⟨v, hv⟩ : ∃ v, l[k]? = some v := ⟨_, List.getElem?_eq_getElem hkl⟩
          have hg1 : ∀ {n : Nat} {e : SV}, n = k → (ints l)[n]? = some e → e = .int .i64 v := by
            rintro n e rfl he
            obtain ⟨x, hx, rfl⟩ := encI_at he
            rw [hv] at hx; cases hx; rfl
          have hnext := take_snoc hv
          have hla : lastR (-1) (l.take (k + 1)) = v := by rw [hnext, lastR_append]
          have hf := goR_false (a := -1) (m := most) hv
          have hgn : goR (-1) most (l.take (k + 1)) = within v (lastR (-1) (l.take k) + 1) most := by rw [hnext, goR_append, hgo]; simp [goR]
          generalize lastR (-1) (l.take k) = la at *
          (repeat' (first | (intro ex hex; have hq := hg1 (by omega) hex; subst hq; clear hex) | (refine Ev.go ?_; conv => whnf) | refine And.intro ?_ ?_ | exact True.intro | exact rfl | (intro rx hrx; rw [ij _ (by omega)] at hrx) | (intro hcx; exfalso; omega) | intro _))
          all_goals (first | (refine ⟨?_⟩; exact vc) | exact cl | skip)
          refine TSq.callT rfl rfl (calleeK_const (And.intro rfl rfl) (TF.ev fn_264 (Ev.at ?_)))
          (repeat' (first | (intro ex hex; have hq := hg1 (by omega) hex; subst hq; clear hex) | (refine Ev.go ?_; conv => whnf) | refine And.intro ?_ ?_ | exact True.intro | exact rfl | (intro rx hrx; rw [ij _ (by omega)] at hrx) | (intro hcx; exfalso; omega) | intro _))
          refine TSq.callT rfl rfl (calleeK_const (And.intro rfl rfl) (TF.ev fn_256 (Ev.at ?_)))
          dsimp only
          (repeat' (first | (intro ex hex; have hq := hg1 (by omega) hex; subst hq; clear hex) | (refine Ev.go ?_; conv => whnf) | refine And.intro ?_ ?_ | exact True.intro | exact rfl | (intro rx hrx; rw [ij _ (by omega)] at hrx) | (intro hcx; exfalso; omega) | intro _))
          all_goals (first | (refine ⟨?_⟩; exact vc) | exact cl | skip)
          refine TSq.pureBC (c152 v rx most) cl rfl (And.intro rfl rfl) ?_ ?_ <;> intro hb
          · rw [hrx] at hb
            have hbb := hb
            simp only [within, decide_eq_true_eq] at hbb
            (repeat' (first | (intro ex hex; have hq := hg1 (by omega) hex; subst hq; clear hex) | (refine Ev.go ?_; conv => whnf) | refine And.intro ?_ ?_ | exact True.intro | exact rfl | (intro rx hrx; rw [ij _ (by omega)] at hrx) | (intro hcx; exfalso; omega) | intro _))
            all_goals (first | (refine ⟨?_⟩; exact vc) | exact cl | skip)
            refine ⟨⟨k + 1, ⟨by omega, by rw [hgn]; exact hb, by omega, by omega⟩, by omega, ?_⟩⟩
            (repeat' (first | (intro ex hex; have hq := hg1 (by omega) hex; subst hq; clear hex) | (refine Ev.go ?_; conv => whnf) | refine And.intro ?_ ?_ | exact True.intro | exact rfl | (intro rx hrx; rw [ij _ (by omega)] at hrx) | (intro hcx; exfalso; omega) | intro _))
            all_goals (first | (refine ⟨?_⟩; exact vc) | exact cl | skip)
            all_goals (try (refine ⟨?_⟩; rw [hla]))
          · rw [hrx] at hb
            rw [hf hb]
            (repeat' (first | (intro ex hex; have hq := hg1 (by omega) hex; subst hq; clear hex) | (refine Ev.go ?_; conv => whnf) | refine And.intro ?_ ?_ | exact True.intro | exact rfl | (intro rx hrx; rw [ij _ (by omega)] at hrx) | (intro hcx; exfalso; omega) | intro _))
            all_goals (first | (refine ⟨?_⟩; exact vc) | exact cl | skip)
            all_goals (try rfl)
        · have hke : k = l.length := by omega
          subst hke
          rw [List.take_length] at hgo
          rw [hgo]
          (repeat' (first | (intro ex hex; have hq := hg1 (by omega) hex; subst hq; clear hex) | (refine Ev.go ?_; conv => whnf) | refine And.intro ?_ ?_ | exact True.intro | exact rfl | (intro rx hrx; rw [ij _ (by omega)] at hrx) | (intro hcx; exfalso; omega) | intro _))
          all_goals (first | (refine ⟨?_⟩; exact vc) | exact cl | skip)
          all_goals (try rfl)
    · rename_i hv
      rw [SV.bool_iff]; simp [risingB, hh, hv]
  · have he : l = [] := List.eq_nil_of_length_eq_zero (by omega)
    subst he
    refine PF.of (TF.ev fn_230 (Ev.at ?_))
    (repeat' (first | (intro ex hex; have hq := hg1 (by omega) hex; subst hq; clear hex) | (refine Ev.go ?_; conv => whnf) | refine And.intro ?_ ?_ | exact True.intro | exact rfl | (intro rx hrx; rw [ij _ (by omega)] at hrx) | (intro hcx; exfalso; omega) | intro _))
    all_goals (try (exfalso; simp [ints] at *; omega))
    all_goals (first | (refine ⟨?_⟩; exact vc) | exact cl | skip)
    all_goals (rw [SV.bool_iff]; simp [risingB])
end Go.Proofs.YtjadiajfbflghaaGreat
set_option linter.unusedSimpArgs false
set_option linter.unusedVariables false
open Go Go.TV
namespace Go.Proofs.YtjadiajfbflghaaGreat
structure OkT (t : Tf) : Prop where
  few : t.weeks.length ≤ 4 ∧ t.counts.length ≤ 5 ∧ t.rates.length ≤ 3
  frm : 0 ≤ t.frm ∧ t.frm ≤ 120
  least : 0 ≤ t.least ∧ t.least ≤ 100
  weeks : risingB t.weeks 120 = true
  two : 1 < t.counts.length
  counts : risingB t.counts 100 = true
  last : t.counts[t.counts.length - 1]? = some 100
  some_ : 0 < t.rates.length
  crops : ∀ c ∈ t.rates, c.length = t.weeks.length ∧ ∀ x ∈ c, x.length = t.counts.length ∧ ∀ n ∈ x, 0 ≤ n ∧ n ≤ 100
theorem okT {t : Tf} (hf : t.few = true) (hv : t.valid = true) : OkT t := by
  simp only [Tf.few, Bool.and_eq_true, decide_eq_true_eq] at hf
  simp only [Tf.valid, Bool.and_eq_true, decide_eq_true_eq, within, List.all_eq_true, Tf.cropB, Tf.weekB] at hv
  obtain ⟨h1, h2, h3, h4, h5, h6, h7, h8⟩ := hv
  refine ⟨⟨hf.1, hf.2.1, hf.2.2⟩, h1, h2, h3, h4, h5, ?_, h7, h8⟩
  rw [← h6, List.getLast?_eq_getElem?]
theorem c179 (t : Tf) (hf : t.few = true) (hv : t.valid = true) : PF Tryz.prog 179 [encTf t] (· = .bool true) := by
  have o := okT hf hv
  have hv' := hv
  simp only [Tf.valid, Bool.and_eq_true, decide_eq_true_eq] at hv'
  obtain ⟨w1, w2, w3, w4, w5, w6, w7, w8⟩ := hv'
  obtain ⟨⟨f1, f2, f3⟩, o1, o2, o3, o4, o5, o6, o7, o8⟩ := o
  have h1 := ints_len t.weeks
  have h2 := ints_len t.counts
  have h3 := encCrs_len t.rates
  have d1 := c152 t.frm 0 120
  have d2 := c152 t.least 0 100
  have d3 := c230 t.weeks 120 (by omega) (by omega)
  have d4 := c230 t.counts 100 (by omega) (by omega)
  have d5 := alCrop t t.rates t.cropB (fun c hc => c229 t c (by have := (o8 c hc).1; omega) fun x hx => by have := ((o8 c hc).2 x hx).1; omega) (by omega)
  rw [w1] at d1; rw [w2] at d2; rw [w3] at d3; rw [w5] at d4; rw [w8] at d5
  have hg1 : ∀ {n : Nat} {e : SV}, n = t.counts.length - 1 → (ints t.counts)[n]? = some e → e = .int .i64 100 := by
    rintro n e rfl he
    obtain ⟨x, hx, rfl⟩ := encI_at he
    rw [o6] at hx; cases hx; rfl
  refine PF.of (TF.ev fn_179 (Ev.at ?_))
  (repeat' (first | (intro ex hex; have hq := hg1 (by omega) hex; subst hq; clear hex) | (refine Ev.go ?_; conv => whnf) | refine And.intro ?_ ?_ | exact True.intro | exact rfl | (intro rx hrx; rw [ij _ (by omega)] at hrx) | (intro hcx; exfalso; omega) | intro _))
  all_goals (first | (refine ⟨?_⟩; exact vc) | exact cl | skip)
  refine TSq.pureC d1 cl rfl (And.intro rfl rfl) ?_
  (repeat' (first | (intro ex hex; have hq := hg1 (by omega) hex; subst hq; clear hex) | (refine Ev.go ?_; conv => whnf) | refine And.intro ?_ ?_ | exact True.intro | exact rfl | (intro rx hrx; rw [ij _ (by omega)] at hrx) | (intro hcx; exfalso; omega) | intro _))
  refine TSq.pureC d2 cl rfl (And.intro rfl rfl) ?_
  (repeat' (first | (intro ex hex; have hq := hg1 (by omega) hex; subst hq; clear hex) | (refine Ev.go ?_; conv => whnf) | refine And.intro ?_ ?_ | exact True.intro | exact rfl | (intro rx hrx; rw [ij _ (by omega)] at hrx) | (intro hcx; exfalso; omega) | intro _))
  refine TSq.pureC d3 cl rfl (And.intro rfl rfl) ?_
  (repeat' (first | (intro ex hex; have hq := hg1 (by omega) hex; subst hq; clear hex) | (refine Ev.go ?_; conv => whnf) | refine And.intro ?_ ?_ | exact True.intro | exact rfl | (intro rx hrx; rw [ij _ (by omega)] at hrx) | (intro hcx; exfalso; omega) | intro _))
  all_goals (try (exfalso; omega))
  refine TSq.pureC d4 cl rfl (And.intro rfl rfl) ?_
  (repeat' (first | (intro ex hex; have hq := hg1 (by omega) hex; subst hq; clear hex) | (refine Ev.go ?_; conv => whnf) | refine And.intro ?_ ?_ | exact True.intro | exact rfl | (intro rx hrx; rw [ij _ (by omega)] at hrx) | (intro hcx; exfalso; omega) | intro _))
  all_goals (try (exfalso; omega))
  all_goals (first | (refine ⟨?_⟩; exact vc) | exact cl | skip)
  refine TSq.pureC d5 (by simp [cloL, clo, encTf, encCrs_clo, ints_clo]) rfl (And.intro rfl rfl) ?_
  (repeat' (first | (intro ex hex; have hq := hg1 (by omega) hex; subst hq; clear hex) | (refine Ev.go ?_; conv => whnf) | refine And.intro ?_ ?_ | exact True.intro | exact rfl | (intro rx hrx; rw [ij _ (by omega)] at hrx) | (intro hcx; exfalso; omega) | intro _))
  try rfl
set_option maxRecDepth 100000 in
set_option maxHeartbeats 4000000 in
theorem c115 (l : List Tf) (hv : ValidTs l) : PF Tryz.prog 115 [.sl 6 (encTfs l)] (· = .int .i64 0) := by
  have hz := encTfs_len l
  have hl := hv.len
  have hne := hv.ne
  have d1 := alFew l Tf.few (fun y _ => c178 y) (by omega)
  have d2 := alVal l (fun _ => true) (fun y hy => c179 y (hv.few y hy) (hv.valid y hy)) (by omega)
  rw [show l.all Tf.few = true from List.all_eq_true.2 fun y hy => hv.few y hy] at d1
  rw [show (l.all fun _ => true) = true from List.all_eq_true.2 fun y hy => rfl] at d2
  obtain ⟨a, ha⟩ : ∃ a, l[0]? = some a := ⟨_, List.getElem?_eq_getElem hne⟩
  have ha0 := hv.first a ha
  have hg1 : ∀ {n : Nat} {e : SV}, n = 0 → (encTfs l)[n]? = some e → e = encTf a := by
    rintro n e rfl he
    obtain ⟨x, hx, rfl⟩ := encTfs_at he
    rw [ha] at hx; cases hx; rfl
  refine PF.of (TF.ev fn_115 (Ev.at ?_))
  (repeat' (first | (intro ex hex; (first | have hq := hg1 (by omega) hex | have hq := hg2 (by omega) hex | have hq := hg3 (by omega) hex); subst hq; clear hex) | (refine Ev.go ?_; conv => whnf) | refine And.intro ?_ ?_ | exact True.intro | exact rfl | (intro rx hrx; rw [ij _ (by omega)] at hrx) | (intro hcx; exfalso; omega) | intro _))
  all_goals (try (exfalso; omega))
  refine TSq.pureC d1 (by simp [cloL, clo, encTfs_clo]) rfl (And.intro rfl rfl) ?_
  (repeat' (first | (intro ex hex; (first | have hq := hg1 (by omega) hex | have hq := hg2 (by omega) hex | have hq := hg3 (by omega) hex); subst hq; clear hex) | (refine Ev.go ?_; conv => whnf) | refine And.intro ?_ ?_ | exact True.intro | exact rfl | (intro rx hrx; rw [ij _ (by omega)] at hrx) | (intro hcx; exfalso; omega) | intro _))
  all_goals (try (exfalso; omega))
  all_goals (first | (refine ⟨?_⟩; exact vc) | exact cl | skip)
  all_goals (try (exfalso; omega))
  refine TSq.pureC d2 (by simp [cloL, clo, encTfs_clo]) rfl (And.intro rfl rfl) ?_
  (repeat' (first | (intro ex hex; (first | have hq := hg1 (by omega) hex | have hq := hg2 (by omega) hex | have hq := hg3 (by omega) hex); subst hq; clear hex) | (refine Ev.go ?_; conv => whnf) | refine And.intro ?_ ?_ | exact True.intro | exact rfl | (intro rx hrx; rw [ij _ (by omega)] at hrx) | (intro hcx; exfalso; omega) | intro _))
  all_goals (first | (refine ⟨?_⟩; exact vc) | exact cl | skip)
  have hsl : ∀ k : Nat, ((encTfs l).drop (1 : Int).toNat |>.take (((encTfs l).length : Int) - 1).toNat)[k]? = if k < l.length - 1 then (encTfs l)[k + 1]? else none := fun k => by
    rw [List.getElem?_take, List.getElem?_drop]
    have e : (((encTfs l).length : Int) - 1).toNat = l.length - 1 := by omega
    rw [e, show (1 : Int).toNat + k = k + 1 by rw [show (1 : Int).toNat = 1 from rfl]; omega]
  have hsn : ((encTfs l).drop (1 : Int).toNat |>.take (((encTfs l).length : Int) - 1).toNat).length = l.length - 1 := by
    rw [List.length_take, List.length_drop, hz, show (1 : Int).toNat = 1 from rfl]; omega
  generalize (((encTfs l).drop (1 : Int).toNat).take (((encTfs l).length : Int) - 1).toNat) = es at *
  refine TWq.loop (fun k : Nat => [(33, .int .i64 k), (3, .junk), (4, .junk)]) (fun _ => []) (fun k => k ≤ l.length - 1) (fun k => l.length - 1 - k) 0 [] [] ?_ (by omega) ?_
  · (repeat' (first | (intro ex hex; (first | have hq := hg1 (by omega) hex | have hq := hg2 (by omega) hex | have hq := hg3 (by omega) hex); subst hq; clear hex) | (refine Ev.go ?_; conv => whnf) | refine And.intro ?_ ?_ | exact True.intro | exact rfl | (intro rx hrx; rw [ij _ (by omega)] at hrx) | (intro hcx; exfalso; omega) | intro _))
    all_goals (first | (refine ⟨?_⟩; exact vc) | exact cl | skip)
  · intro k hk
    rcases Nat.lt_or_ge k (l.length - 1) with hkl | hkl
    · obtain ⟨b, hb⟩ : ∃ b, l[k]? = some b := ⟨_, List.getElem?_eq_getElem (by omega)⟩
      obtain ⟨c, hc⟩ : ∃ c, l[k + 1]? = some c := ⟨_, List.getElem?_eq_getElem (by omega)⟩
      have hlt := hv.next k b c hb hc
      have hcr := hv.crops (k + 1) a c ha hc
      have hA := encCrs_len a.rates
      have hC := encCrs_len c.rates
      have hg2 : ∀ {n : Nat} {e : SV}, n = k → (encTfs l)[n]? = some e → e = encTf b := by
        rintro n e rfl he
        obtain ⟨x, hx, rfl⟩ := encTfs_at he
        rw [hb] at hx; cases hx; rfl
      have hg3 : ∀ {n : Nat} {e : SV}, n = k → es[n]? = some e → e = encTf c := by
        rintro n e rfl he
        rw [hsl, if_pos hkl] at he
        obtain ⟨x, hx, rfl⟩ := encTfs_at he
        rw [hc] at hx; cases hx; rfl
      rcases Nat.eq_zero_or_pos k with hk0 | hkp
      · subst hk0
        rw [ha] at hb; cases hb
        (repeat' (first | (intro ex hex; (first | have hq := hg1 (by omega) hex | have hq := hg2 (by omega) hex | have hq := hg3 (by omega) hex); subst hq; clear hex) | (refine Ev.go ?_; conv => whnf) | refine And.intro ?_ ?_ | exact True.intro | exact rfl | (intro rx hrx; rw [ij _ (by omega)] at hrx) | (intro hcx; exfalso; omega) | intro _))
        all_goals (first | (refine ⟨?_⟩; exact vk) | exact cl | skip)
        all_goals (try (exfalso; omega))
        refine ⟨⟨0 + 1, by omega, by omega, ?_⟩⟩
        (repeat' (first | (intro ex hex; (first | have hq := hg1 (by omega) hex | have hq := hg2 (by omega) hex | have hq := hg3 (by omega) hex); subst hq; clear hex) | (refine Ev.go ?_; conv => whnf) | refine And.intro ?_ ?_ | exact True.intro | exact rfl | (intro rx hrx; rw [ij _ (by omega)] at hrx) | (intro hcx; exfalso; omega) | intro _))
        all_goals (first | (refine ⟨?_⟩; exact vc) | exact cl | skip)
      · (repeat' (first | (intro ex hex; (first | have hq := hg1 (by omega) hex | have hq := hg2 (by omega) hex | have hq := hg3 (by omega) hex); subst hq; clear hex) | (refine Ev.go ?_; conv => whnf) | refine And.intro ?_ ?_ | exact True.intro | exact rfl | (intro rx hrx; rw [ij _ (by omega)] at hrx) | (intro hcx; exfalso; omega) | intro _))
        all_goals (first | (refine ⟨?_⟩; exact vk) | exact cl | skip)
        all_goals (try (exfalso; omega))
        refine ⟨⟨k + 1, by omega, by omega, ?_⟩⟩
        (repeat' (first | (intro ex hex; (first | have hq := hg1 (by omega) hex | have hq := hg2 (by omega) hex | have hq := hg3 (by omega) hex); subst hq; clear hex) | (refine Ev.go ?_; conv => whnf) | refine And.intro ?_ ?_ | exact True.intro | exact rfl | (intro rx hrx; rw [ij _ (by omega)] at hrx) | (intro hcx; exfalso; omega) | intro _))
        all_goals (first | (refine ⟨?_⟩; exact vc) | exact cl | skip)
    · have hke : k = l.length - 1 := by omega
      subst hke
      (repeat' (first | (intro ex hex; (first | have hq := hg1 (by omega) hex | have hq := hg2 (by omega) hex | have hq := hg3 (by omega) hex); subst hq; clear hex) | (refine Ev.go ?_; conv => whnf) | refine And.intro ?_ ?_ | exact True.intro | exact rfl | (intro rx hrx; rw [ij _ (by omega)] at hrx) | (intro hcx; exfalso; omega) | intro _))
      all_goals (try (exfalso; omega))
      all_goals (first | (refine ⟨?_⟩; exact vc) | exact cl | skip)
      all_goals (try rfl)
end Go.Proofs.YtjadiajfbflghaaGreat
set_option linter.unusedSimpArgs false
set_option linter.unusedVariables false
open Go Go.TV
namespace Go.Proofs.YtjadiajfbflghaaGreat
def lastLe (l : List Int) (d : Int) : Nat → Nat
  | 0 => 0
  | k + 1 => if l.getD k 0 ≤ d then k else lastLe l d k
theorem lastLe_lt (l : List Int) (d : Int) : ∀ {k : Nat}, 0 < k → lastLe l d k < k
  | k + 1, _ => by
    simp only [lastLe]
    split
    · omega
    · rcases Nat.eq_zero_or_pos k with h | h
      · subst h; simp [lastLe]
      · have := lastLe_lt l d h; omega
set_option maxRecDepth 100000 in
theorem c208 (t : Tf) (d : Int) (hl : t.weeks.length ≤ 1000) : PF Tryz.prog 208 [encTf t, .int .i64 d] (· = .int .i64 (lastLe t.weeks d t.weeks.length : Nat)) := by
  have hz := ints_len t.weeks
  refine PF.of (TF.ev fn_208 (Ev.at ?_))
  (repeat' (first | (intro ex hex; have hq := hg1 (by omega) hex; subst hq; clear hex) | (refine Ev.go ?_; conv => whnf) | refine And.intro ?_ ?_ | exact True.intro | exact rfl | (intro rx hrx; rw [ij _ (by omega)] at hrx) | (intro hcx; exfalso; omega) | intro _))
  all_goals (first | (refine ⟨?_⟩; exact vc) | exact cl | skip)
  refine TWq.loop (fun k : Nat => [(4, .int .i64 (lastLe t.weeks d k : Nat)), (10, .int .i64 k), (5, .junk), (6, .junk)]) (fun _ => []) (fun k => k ≤ t.weeks.length) (fun k => t.weeks.length - k) 0 [] [] ?_ (by omega) ?_
  · (repeat' (first | (intro ex hex; have hq := hg1 (by omega) hex; subst hq; clear hex) | (refine Ev.go ?_; conv => whnf) | refine And.intro ?_ ?_ | exact True.intro | exact rfl | (intro rx hrx; rw [ij _ (by omega)] at hrx) | (intro hcx; exfalso; omega) | intro _))
    all_goals (first | (refine ⟨?_⟩; exact vc) | exact cl | skip)
  · intro k hk
    rcases Nat.lt_or_ge k t.weeks.length with hkl | hkl
    · obtain ⟨v, hv⟩ : ∃ v, t.weeks[k]? = some v := ⟨_, List.getElem?_eq_getElem hkl⟩
      have hd : t.weeks.getD k 0 = v := by simp [List.getD_eq_getElem?_getD, hv]
      have hs : lastLe t.weeks d (k + 1) = if v ≤ d then k else lastLe t.weeks d k := by rw [lastLe, hd]
      have hg1 : ∀ {n : Nat} {e : SV}, n = k → (ints t.weeks)[n]? = some e → e = .int .i64 v := by
        rintro n e rfl he
        obtain ⟨x, hx, rfl⟩ := encI_at he
        rw [hv] at hx; cases hx; rfl
      (repeat' (first | (intro ex hex; have hq := hg1 (by omega) hex; subst hq; clear hex) | (refine Ev.go ?_; conv => whnf) | refine And.intro ?_ ?_ | exact True.intro | exact rfl | (intro rx hrx; rw [ij _ (by omega)] at hrx) | (intro hcx; exfalso; omega) | intro _))
      all_goals (first | (refine ⟨?_⟩; exact vc) | exact cl | skip)
      · rw [if_pos (by assumption)] at hs
        refine ⟨⟨k + 1, by omega, by omega, ?_⟩⟩
        (repeat' (first | (intro ex hex; have hq := hg1 (by omega) hex; subst hq; clear hex) | (refine Ev.go ?_; conv => whnf) | refine And.intro ?_ ?_ | exact True.intro | exact rfl | (intro rx hrx; rw [ij _ (by omega)] at hrx) | (intro hcx; exfalso; omega) | intro _))
        all_goals (first | (refine ⟨?_⟩; exact vc) | exact cl | skip)
        all_goals (try (refine ⟨?_⟩; rw [hs]))
      · rw [if_neg (by omega)] at hs
        refine ⟨⟨k + 1, by omega, by omega, ?_⟩⟩
        (repeat' (first | (intro ex hex; have hq := hg1 (by omega) hex; subst hq; clear hex) | (refine Ev.go ?_; conv => whnf) | refine And.intro ?_ ?_ | exact True.intro | exact rfl | (intro rx hrx; rw [ij _ (by omega)] at hrx) | (intro hcx; exfalso; omega) | intro _))
        all_goals (first | (refine ⟨?_⟩; exact vc) | exact cl | skip)
        all_goals (try (refine ⟨?_⟩; rw [hs]))
    · have hke : k = t.weeks.length := by omega
      subst hke
      (repeat' (first | (intro ex hex; have hq := hg1 (by omega) hex; subst hq; clear hex) | (refine Ev.go ?_; conv => whnf) | refine And.intro ?_ ?_ | exact True.intro | exact rfl | (intro rx hrx; rw [ij _ (by omega)] at hrx) | (intro hcx; exfalso; omega) | intro _))
      all_goals (first | (refine ⟨?_⟩; exact vc) | exact cl | skip)
      all_goals (try rfl)
theorem c244 (n : Int) : PF Tryz.prog 244 [.int .i64 n] (· = .bool false) := by
  refine PF.of (TF.ev fn_244 (Ev.at ?_))
  (repeat' (first | (refine Ev.go ?_; conv => whnf) | refine And.intro ?_ ?_ | exact True.intro | exact rfl | (intro rx hrx; rw [ij _ (by omega)] at hrx) | (intro hcx; exfalso; omega) | intro _))
  all_goals (try (rename_i h; exact absurd rfl h))
  all_goals (try rfl)
theorem c261 (n : Int) : PF Tryz.prog 261 [.int .i64 n] (· = .bool false) := by
  refine PF.of (TF.ev fn_261 (Ev.at ?_))
  (repeat' (first | (refine Ev.go ?_; conv => whnf) | refine And.intro ?_ ?_ | exact True.intro | exact rfl | (intro rx hrx; rw [ij _ (by omega)] at hrx) | (intro hcx; exfalso; omega) | intro _))
  all_goals (try (rename_i h; exact absurd rfl h))
  all_goals (try rfl)
theorem c243 (a b : Int) : PF Tryz.prog 243 [.int .i64 a, .int .i64 b] (· = .bool (decide (a < b))) := by
  refine PF.of (TF.ev fn_243 (Ev.at ?_))
  (repeat' (first | (refine Ev.go ?_; conv => whnf) | refine And.intro ?_ ?_ | exact True.intro | exact rfl | (intro rx hrx; rw [ij _ (by omega)] at hrx) | (intro hcx; exfalso; omega) | intro _))
  refine TSq.pureC (c261 a) cl rfl (And.intro rfl rfl) ?_
  (repeat' (first | (refine Ev.go ?_; conv => whnf) | refine And.intro ?_ ?_ | exact True.intro | exact rfl | (intro rx hrx; rw [ij _ (by omega)] at hrx) | (intro hcx; exfalso; omega) | intro _))
  all_goals (rw [SV.bool_iff]; simp; try omega)
def posB (l : List Int) (x : Int) : Nat := (l.takeWhile fun y => decide (y < x)).length
theorem posB_eq {x : Int} : ∀ {l : List Int} {i : Nat}, i ≤ l.length → (∀ (j : Nat) (y : Int), j < i → l[j]? = some y → y < x) → (∀ y, l[i]? = some y → x ≤ y) → posB l x = i
  | [], i, h, _, _ => by simp at h; subst h; rfl
  | a :: l, 0, _, _, h2 => by
    have := h2 a rfl
    simp [posB, List.takeWhile_cons, show ¬ a < x by omega]
  | a :: l, i + 1, h, h1, h2 => by
    have ha := h1 0 a (by omega) rfl
    have ih := posB_eq (x := x) (l := l) (i := i) (by simpa using h) (fun j y hj hy => h1 (j + 1) y (by omega) (by simpa using hy)) (fun y hy => h2 y (by simpa using hy))
    simp only [posB] at ih ⊢
    simp [List.takeWhile_cons, ha, ih]
def Rise (l : List Int) : Prop := ∀ (i j : Nat) (a b : Int), i < j → l[i]? = some a → l[j]? = some b → a < b
set_option maxRecDepth 100000 in
set_option maxHeartbeats 4000000 in
theorem c209 (l : List Int) (x : Int) (hl : l.length ≤ 1000) (hr : Rise l) : PF Tryz.prog 209 [.sl 1 (ints l), .int .i64 x] (· = .tup [.int .i64 (posB l x : Nat), .bool (decide (l[posB l x]? = some x))]) := by
  have hz := ints_len l
  have hsub1 : ∀ {r n : Int}, r = IntKind.u64.wrap n → 0 ≤ n ∧ n ≤ 100000 → r = n := fun h e => by rw [h, IntWalk.u64_in _ (by omega)]
  refine PF.of (TF.ev fn_209 (Ev.at ?_))
  (repeat' (first | (intro rx hrx; have hq := hsub1 hrx (by omega); subst hq; clear hrx) | (intro rx hrx; have hq := hsub2 hrx (by omega); subst hq; clear hrx) | (intro ex hex; have hq := hg1 (by omega) hex; subst hq; clear hex) | (refine Ev.go ?_; conv => whnf) | refine And.intro ?_ ?_ | exact True.intro | exact rfl | (intro rx hrx; rw [ij _ (by omega)] at hrx) | (intro hcx; exfalso; omega) | intro _))
  refine TWq.loop (fun p : Nat × Nat => [(7, .int .i64 p.1), (8, .int .i64 p.2), (9, .junk)]) (fun _ => []) (fun p => p.1 ≤ p.2 ∧ p.2 ≤ l.length ∧ (∀ (j : Nat) (y : Int), j < p.1 → l[j]? = some y → y < x) ∧ (∀ (j : Nat) (y : Int), p.2 ≤ j → l[j]? = some y → x ≤ y)) (fun p => p.2 - p.1) (0, l.length) [] [] ?_ ⟨by omega, by omega, fun j y hj => by dsimp only at hj; omega, fun j y hj hy => by have := (List.getElem?_eq_some_iff.1 hy).1; dsimp only at hj; omega⟩ ?_
  · (repeat' (first | (intro rx hrx; have hq := hsub1 hrx (by omega); subst hq; clear hrx) | (intro rx hrx; have hq := hsub2 hrx (by omega); subst hq; clear hrx) | (intro ex hex; have hq := hg1 (by omega) hex; subst hq; clear hex) | (refine Ev.go ?_; conv => whnf) | refine And.intro ?_ ?_ | exact True.intro | exact rfl | (intro rx hrx; rw [ij _ (by omega)] at hrx) | (intro hcx; exfalso; omega) | intro _))
    all_goals (first | (refine ⟨?_⟩; exact vc) | exact cl | skip)
  · rintro ⟨lo, hi⟩ ⟨h1, h2, h3, h4⟩
    dsimp only at h1 h2 h3 h4 ⊢
    rcases Nat.lt_or_ge lo hi with hlt | hge
    · obtain ⟨m, hm⟩ : ∃ m : Nat, m = (lo + hi) / 2 := ⟨_, rfl⟩
      obtain ⟨v, hv⟩ : ∃ v, l[m]? = some v := ⟨_, List.getElem?_eq_getElem (by omega)⟩
      have hg1 : ∀ {n : Nat} {e : SV}, n = m → (ints l)[n]? = some e → e = .int .i64 v := by
        rintro n e rfl he
        obtain ⟨x, hx, rfl⟩ := encI_at he
        rw [hv] at hx; cases hx; rfl
      have hsub2 : ∀ {r y q : Int}, r = y.fdiv (2 ^ min q.toNat IntKind.u64.bits) → y = (lo : Int) + hi ∧ q = 1 → r = (m : Int) := fun {r y q} h e => by
        rw [h, e.1, e.2, show ((2 : Int) ^ min (1 : Int).toNat IntKind.u64.bits) = 2 by decide, Int.fdiv_eq_ediv_of_nonneg _ (by omega)]; omega
      (repeat' (first | (intro rx hrx; have hq := hsub1 hrx (by omega); subst hq; clear hrx) | (intro rx hrx; have hq := hsub2 hrx (by omega); subst hq; clear hrx) | (intro ex hex; have hq := hg1 (by omega) hex; subst hq; clear hex) | (refine Ev.go ?_; conv => whnf) | refine And.intro ?_ ?_ | exact True.intro | exact rfl | (intro rx hrx; rw [ij _ (by omega)] at hrx) | (intro hcx; exfalso; omega) | intro _))
      all_goals (first | (refine ⟨?_⟩; exact vc) | exact cl | skip)
      refine TSq.pureBC (c243 v x) cl rfl (And.intro rfl rfl) ?_ ?_ <;> intro hb
      · have hvx : v < x := by simpa using hb
        (repeat' (first | (intro rx hrx; have hq := hsub1 hrx (by omega); subst hq; clear hrx) | (intro rx hrx; have hq := hsub2 hrx (by omega); subst hq; clear hrx) | (intro ex hex; have hq := hg1 (by omega) hex; subst hq; clear hex) | (refine Ev.go ?_; conv => whnf) | refine And.intro ?_ ?_ | exact True.intro | exact rfl | (intro rx hrx; rw [ij _ (by omega)] at hrx) | (intro hcx; exfalso; omega) | intro _))
        all_goals (first | (refine ⟨?_⟩; exact vc) | exact cl | skip)
        refine ⟨⟨(m + 1, hi), ⟨by dsimp only; omega, by dsimp only; omega, fun j y hj hy => ?_, h4⟩, by dsimp only; omega, ?_⟩⟩
        · dsimp only at hj
          rcases Nat.lt_or_ge j m with h | h
          · have := hr j m y v h hy hv; omega
          · have : j = m := by omega
            subst this; rw [hv] at hy; cases hy; exact hvx
        · (repeat' (first | (intro rx hrx; have hq := hsub1 hrx (by omega); subst hq; clear hrx) | (intro rx hrx; have hq := hsub2 hrx (by omega); subst hq; clear hrx) | (intro ex hex; have hq := hg1 (by omega) hex; subst hq; clear hex) | (refine Ev.go ?_; conv => whnf) | refine And.intro ?_ ?_ | exact True.intro | exact rfl | (intro rx hrx; rw [ij _ (by omega)] at hrx) | (intro hcx; exfalso; omega) | intro _))
          all_goals (first | (refine ⟨?_⟩; exact vc) | exact cl | skip)
      · have hvx : x ≤ v := by simpa using hb
        (repeat' (first | (intro rx hrx; have hq := hsub1 hrx (by omega); subst hq; clear hrx) | (intro rx hrx; have hq := hsub2 hrx (by omega); subst hq; clear hrx) | (intro ex hex; have hq := hg1 (by omega) hex; subst hq; clear hex) | (refine Ev.go ?_; conv => whnf) | refine And.intro ?_ ?_ | exact True.intro | exact rfl | (intro rx hrx; rw [ij _ (by omega)] at hrx) | (intro hcx; exfalso; omega) | intro _))
        all_goals (first | (refine ⟨?_⟩; exact vc) | exact cl | skip)
        refine ⟨⟨(lo, m), ⟨by dsimp only; omega, by dsimp only; omega, h3, fun j y hj hy => ?_⟩, by dsimp only; omega, ?_⟩⟩
        · dsimp only at hj
          rcases Nat.lt_or_ge m j with h | h
          · have := hr m j v y h hv hy; omega
          · have : j = m := by omega
            subst this; rw [hv] at hy; cases hy; exact hvx
        · (repeat' (first | (intro rx hrx; have hq := hsub1 hrx (by omega); subst hq; clear hrx) | (intro rx hrx; have hq := hsub2 hrx (by omega); subst hq; clear hrx) | (intro ex hex; have hq := hg1 (by omega) hex; subst hq; clear hex) | (refine Ev.go ?_; conv => whnf) | refine And.intro ?_ ?_ | exact True.intro | exact rfl | (intro rx hrx; rw [ij _ (by omega)] at hrx) | (intro hcx; exfalso; omega) | intro _))
          all_goals (first | (refine ⟨?_⟩; exact vc) | exact cl | skip)
    · have hle : lo = hi := by omega
      subst hle
      have hp : posB l x = lo := posB_eq h2 h3 (fun y hy => h4 lo y (Nat.le_refl _) hy)
      rw [hp]
      rcases Nat.lt_or_ge lo l.length with hll | hll
      · obtain ⟨v, hv⟩ : ∃ v, l[lo]? = some v := ⟨_, List.getElem?_eq_getElem hll⟩
        have hg1 : ∀ {n : Nat} {e : SV}, n = lo → (ints l)[n]? = some e → e = .int .i64 v := by
          rintro n e rfl he
          obtain ⟨x, hx, rfl⟩ := encI_at he
          rw [hv] at hx; cases hx; rfl
        (repeat' (first | (intro rx hrx; have hq := hsub1 hrx (by omega); subst hq; clear hrx) | (intro rx hrx; have hq := hsub2 hrx (by omega); subst hq; clear hrx) | (intro ex hex; have hq := hg1 (by omega) hex; subst hq; clear hex) | (refine Ev.go ?_; conv => whnf) | refine And.intro ?_ ?_ | exact True.intro | exact rfl | (intro rx hrx; rw [ij _ (by omega)] at hrx) | (intro hcx; exfalso; omega) | intro _))
        all_goals (first | (refine ⟨?_⟩; exact vc) | exact cl | skip)
        · rename_i hx
          show SV.tup _ = SV.tup _
          simp [hv, hx]
        · rename_i hx
          refine TSq.pureC (c244 v) cl rfl (And.intro rfl rfl) ?_
          (repeat' (first | (intro rx hrx; have hq := hsub1 hrx (by omega); subst hq; clear hrx) | (intro rx hrx; have hq := hsub2 hrx (by omega); subst hq; clear hrx) | (intro ex hex; have hq := hg1 (by omega) hex; subst hq; clear hex) | (refine Ev.go ?_; conv => whnf) | refine And.intro ?_ ?_ | exact True.intro | exact rfl | (intro rx hrx; rw [ij _ (by omega)] at hrx) | (intro hcx; exfalso; omega) | intro _))
          show SV.tup _ = SV.tup _
          simp [hv, hx]
      · (repeat' (first | (intro rx hrx; have hq := hsub1 hrx (by omega); subst hq; clear hrx) | (intro rx hrx; have hq := hsub2 hrx (by omega); subst hq; clear hrx) | (intro ex hex; have hq := hg1 (by omega) hex; subst hq; clear hex) | (refine Ev.go ?_; conv => whnf) | refine And.intro ?_ ?_ | exact True.intro | exact rfl | (intro rx hrx; rw [ij _ (by omega)] at hrx) | (intro hcx; exfalso; omega) | intro _))
        all_goals (first | (refine ⟨?_⟩; exact vc) | exact cl | skip)
        all_goals (show SV.tup _ = SV.tup _; simp [List.getElem?_eq_none hll])
end Go.Proofs.YtjadiajfbflghaaGreat
set_option linter.unusedSimpArgs false
set_option linter.unusedVariables false
open Go Go.TV
namespace Go.Proofs.YtjadiajfbflghaaGreat
theorem goR_spec {m : Int} : ∀ {a : Int} {l : List Int}, goR a m l = true → (∀ x ∈ l, a < x ∧ x ≤ m) ∧ l.Pairwise (· < ·)
  | a, [], _ => by simp
  | a, x :: l, h => by
    simp only [goR, Bool.and_eq_true, within, decide_eq_true_eq] at h
    obtain ⟨h1, h2⟩ := goR_spec h.2
    refine ⟨fun y hy => ?_, List.pairwise_cons.2 ⟨fun y hy => (h1 y hy).1, h2⟩⟩
    rcases List.mem_cons.1 hy with rfl | hy
    · omega
    · have := h1 y hy; omega
theorem rise_of {l : List Int} {m : Int} (h : risingB l m = true) : Rise l ∧ l[0]? = some 0 ∧ ∀ x ∈ l, 0 ≤ x ∧ x ≤ m := by
  simp only [risingB, Bool.and_eq_true, decide_eq_true_eq] at h
  obtain ⟨_, h2, h3⟩ := h
  obtain ⟨h4, h5⟩ := goR_spec h3
  refine ⟨fun i j a b hij ha hb => ?_, by cases l <;> simp_all, fun x hx => by have := h4 x hx; omega⟩
  have := (List.pairwise_iff_getElem.1 h5) i j (List.getElem?_eq_some_iff.1 ha).1 (List.getElem?_eq_some_iff.1 hb).1 hij
  rw [(List.getElem?_eq_some_iff.1 ha).2, (List.getElem?_eq_some_iff.1 hb).2] at this
  exact this
theorem posB_spec (x : Int) : ∀ (l : List Int), posB l x ≤ l.length ∧ (∀ (j : Nat) (y : Int), j < posB l x → l[j]? = some y → y < x) ∧ ∀ y, l[posB l x]? = some y → x ≤ y
  | [] => by simp [posB]
  | a :: l => by
    obtain ⟨h1, h2, h3⟩ := posB_spec x l
    by_cases ha : a < x
    · have e : posB (a :: l) x = posB l x + 1 := by simp [posB, List.takeWhile_cons, ha]
      rw [e]
      refine ⟨by simp; omega, fun j y hj hy => ?_, fun y hy => h3 y (by simpa using hy)⟩
      cases j with
      | zero => simp at hy; omega
      | succ j => exact h2 j y (by omega) (by simpa using hy)
    · have e : posB (a :: l) x = 0 := by simp [posB, List.takeWhile_cons, ha]
      rw [e]
      exact ⟨by simp, fun j y hj => by omega, fun y hy => by simp at hy; omega⟩
def atF (l : List Tf) (d : Int) : Nat → Option Tf
  | 0 => none
  | k + 1 => match l[k]? with
    | some t => if t.frm ≤ d then some t else atF l d k
    | none => atF l d k
def tfC : Option Tf → List SV
  | none => [.int .i64 0, .bool false, .int .i64 0, .nils, .nils, .nils]
  | some t => [.int .i64 t.frm, .bool t.whole, .int .i64 t.least, .sl 1 (ints t.weeks), .sl 1 (ints t.counts), .sl 1 (encCrs t.rates)]
set_option maxRecDepth 100000 in
set_option maxHeartbeats 4000000 in
theorem c153 (l : List Tf) (d : Int) (t : Tf) (hl : l.length ≤ 1000) (ht : atF l d l.length = some t) : PF Tryz.prog 153 [.agg [.sl 6 (encTfs l)], .int .i64 d] (· = encTf t) := by
  have hz := encTfs_len l
  refine PF.of (TF.ev fn_153 (Ev.at ?_))
  (repeat' (first | (intro ex hex; have hq := hg1 (by omega) hex; subst hq; clear hex) | (refine Ev.go ?_; conv => whnf) | refine And.intro ?_ ?_ | exact True.intro | exact rfl | (intro rx hrx; rw [ij _ (by omega)] at hrx) | (intro hcx; exfalso; omega) | intro _))
  all_goals (first | (refine ⟨?_⟩; exact vc) | exact cl | skip)
  refine TWq.loop (fun k : Nat => [(10, .int .i64 k), (6, .junk)]) (fun k => [(1, .cells (tfC (atF l d k)))]) (fun k => k ≤ l.length) (fun k => l.length - k) 0 [] [] ?_ (by omega) ?_
  · (repeat' (first | (intro ex hex; have hq := hg1 (by omega) hex; subst hq; clear hex) | (refine Ev.go ?_; conv => whnf) | refine And.intro ?_ ?_ | exact True.intro | exact rfl | (intro rx hrx; rw [ij _ (by omega)] at hrx) | (intro hcx; exfalso; omega) | intro _))
    all_goals (first | (refine ⟨?_⟩; exact vc) | exact cl | skip)
  · intro k hk
    rcases Nat.lt_or_ge k l.length with hkl | hkl
    · obtain ⟨v, hv⟩ : ∃ v, l[k]? = some v := ⟨_, List.getElem?_eq_getElem hkl⟩
      have hs : atF l d (k + 1) = if v.frm ≤ d then some v else atF l d k := by rw [atF, hv]
      have hg1 : ∀ {n : Nat} {e : SV}, n = k → (encTfs l)[n]? = some e → e = encTf v := by
        rintro n e rfl he
        obtain ⟨x, hx, rfl⟩ := encTfs_at he
        rw [hv] at hx; cases hx; rfl
      by_cases hle : v.frm ≤ d
      · rw [if_pos hle] at hs
        cases hc : atF l d k
        all_goals
          (repeat' (first | (intro ex hex; have hq := hg1 (by omega) hex; subst hq; clear hex) | (refine Ev.go ?_; conv => whnf) | refine And.intro ?_ ?_ | exact True.intro | exact rfl | (intro rx hrx; rw [ij _ (by omega)] at hrx) | (intro hcx; exfalso; omega) | intro _))
          all_goals (try (exfalso; omega))
          all_goals (first | (refine ⟨?_⟩; exact vc) | exact cl | skip)
          refine ⟨⟨k + 1, by omega, by omega, ?_⟩⟩
          rw [hs]
          (repeat' (first | (intro ex hex; have hq := hg1 (by omega) hex; subst hq; clear hex) | (refine Ev.go ?_; conv => whnf) | refine And.intro ?_ ?_ | exact True.intro | exact rfl | (intro rx hrx; rw [ij _ (by omega)] at hrx) | (intro hcx; exfalso; omega) | intro _))
          all_goals (first | (refine ⟨?_⟩; exact vc) | exact cl | skip)
      · rw [if_neg hle] at hs
        cases hc : atF l d k
        all_goals
          (repeat' (first | (intro ex hex; have hq := hg1 (by omega) hex; subst hq; clear hex) | (refine Ev.go ?_; conv => whnf) | refine And.intro ?_ ?_ | exact True.intro | exact rfl | (intro rx hrx; rw [ij _ (by omega)] at hrx) | (intro hcx; exfalso; omega) | intro _))
          all_goals (try (exfalso; omega))
          all_goals (first | (refine ⟨?_⟩; exact vc) | exact cl | skip)
          refine ⟨⟨k + 1, by omega, by omega, ?_⟩⟩
          rw [hs, hc]
          (repeat' (first | (intro ex hex; have hq := hg1 (by omega) hex; subst hq; clear hex) | (refine Ev.go ?_; conv => whnf) | refine And.intro ?_ ?_ | exact True.intro | exact rfl | (intro rx hrx; rw [ij _ (by omega)] at hrx) | (intro hcx; exfalso; omega) | intro _))
          all_goals (first | (refine ⟨?_⟩; exact vc) | exact cl | skip)
    · have hke : k = l.length := by omega
      subst hke
      rw [ht]
      (repeat' (first | (intro ex hex; have hq := hg1 (by omega) hex; subst hq; clear hex) | (refine Ev.go ?_; conv => whnf) | refine And.intro ?_ ?_ | exact True.intro | exact rfl | (intro rx hrx; rw [ij _ (by omega)] at hrx) | (intro hcx; exfalso; omega) | intro _))
      all_goals (first | (refine ⟨?_⟩; exact vc) | exact cl | skip)
      all_goals (try rfl)
end Go.Proofs.YtjadiajfbflghaaGreat
