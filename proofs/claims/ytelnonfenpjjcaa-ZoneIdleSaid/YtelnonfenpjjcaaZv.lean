/- The lists that are tried for False, and the first one that will do. -/
import Derived.Test.YtelnonfenpjjcaaZu
set_option linter.unusedSimpArgs false
set_option linter.unusedVariables false
open Go Go.TV
namespace Go.Proofs.Ytelnonfenpjjcaa

/-- The rising lists of m numbers from k on, below n, the lexicographically smaller ones first. -/
def combos (n : Nat) : Nat → Nat → List (List Int)
  | 0, _ => [[]]
  | m + 1, k => (List.range' k (n - m - k)).flatMap fun i => (combos n m (i + 1)).map fun t => (i : Int) :: t
/-- Whether a class can be had if these years are false. -/
def goodF (r : Rule) (z : Zone) (c : Nat) (t : List Int) : Bool := hasC (reach r z.first t z.years z.years.length) c

theorem F6.at_of {ks : List Spot} {c : Nat} (h : c < 6) : (F6.of ks).at c = hasC ks c := by
  have : c = 0 ∨ c = 1 ∨ c = 2 ∨ c = 3 ∨ c = 4 ∨ c = 5 := by omega
  rcases this with rfl | rfl | rfl | rfl | rfl | rfl <;> rfl

/-- What a try ends with. -/
structure TryOK (c : Nat) (good : List Int → Bool) (L : List (List Int)) (res : Bool × Fnd) : Prop where
  yes : ∀ t, L.find? good = some t → res.1 = true ∧ res.2.found = t ∧ res.2.last.at c = true
  no : L.find? good = none → res.1 = false ∧ res.2.last.at c = false

theorem tryL_ok {c : Nat} {good : List Int → Bool} {F : Nat → Fnd → Bool × Fnd} {G : Nat → List (List Int)} (hF : ∀ i s, s.last.at c = false → TryOK c good (G i) (F i s)) :
    ∀ (n k : Nat) (s : Fnd), s.last.at c = false → TryOK c good ((List.range' k n).flatMap G) (tryL F n k s)
  | 0, k, s, h => ⟨fun t ht => by simp at ht, fun _ => ⟨rfl, h⟩⟩
  | n + 1, k, s, h => by
    have h1 := hF k s h
    simp only [List.range'_succ, List.flatMap_cons, tryL]
    cases hf : (G k).find? good with
    | some t =>
      obtain ⟨a, b, d⟩ := h1.yes t hf
      rw [if_pos a]
      constructor
      · intro t' ht'
        rw [List.find?_append, hf] at ht'
        simp at ht'
        subst ht'
        exact ⟨rfl, b, d⟩
      · intro hn
        rw [List.find?_append, hf] at hn
        simp at hn
    | none =>
      obtain ⟨a, b⟩ := h1.no hf
      rw [if_neg (by rw [a]; simp)]
      have h2 := tryL_ok hF n (k + 1) (F k s).2 b
      constructor
      · intro t' ht'
        rw [List.find?_append, hf] at ht'
        exact h2.yes t' (by simpa using ht')
      · intro hn
        rw [List.find?_append, hf] at hn
        exact h2.no (by simpa using hn)

theorem tryS_ok {r : Rule} {z : Zone} {c : Nat} (hc : c < 6) : ∀ (m : Nat) (out : List Int) (k : Nat) (s : Fnd), s.last.at c = false →
    TryOK c (goodF r z c) ((combos z.years.length m k).map fun t => out ++ t) (tryS r z c m out k s)
  | 0, out, k, s, h => by
    simp only [combos, List.map_cons, List.map_nil, List.append_nil, tryS]
    have hat := F6.at_of (ks := reach r z.first out z.years z.years.length) hc
    split
    · rename_i he
      have hg : goodF r z c out = false := by unfold goodF; rw [← hat, he, h]
      constructor
      · intro t ht; simp [hg] at ht
      · intro _; exact ⟨rfl, h⟩
    · cases hg : goodF r z c out with
      | true =>
        constructor
        · intro t ht
          simp [hg] at ht
          subst ht
          exact ⟨hg, rfl, by dsimp only; rw [hat]; exact hg⟩
        · intro hn; simp [hg] at hn
      | false =>
        constructor
        · intro t ht; simp [hg] at ht
        · intro _
          exact ⟨hg, by dsimp only; rw [hat]; exact hg⟩
  | m + 1, out, k, s, h => by
    have := tryL_ok (c := c) (good := goodF r z c) (F := fun i s => tryS r z c m (out ++ [(i : Int)]) (i + 1) s) (G := fun i => (combos z.years.length m (i + 1)).map fun t => (out ++ [(i : Int)]) ++ t) (fun i s h => tryS_ok hc m (out ++ [(i : Int)]) (i + 1) s h) (z.years.length - m - k) k s h
    simp only [combos, tryS, List.map_flatMap, List.map_map]
    have e : (fun i : Nat => (combos z.years.length m (i + 1)).map ((fun t => out ++ t) ∘ fun t => (i : Int) :: t)) = fun i : Nat => (combos z.years.length m (i + 1)).map fun t => (out ++ [(i : Int)]) ++ t := by
      funext i
      apply List.map_congr_left
      intro t _
      simp
    rw [e]
    exact this

/-- All lists, the shorter ones first. -/
def allC (n : Nat) : List (List Int) := (List.range' 0 (n + 1)).flatMap fun m => combos n m 0
theorem sizes_ok {r : Rule} {z : Zone} {c : Nat} (hc : c < 6) : TryOK c (goodF r z c) (allC z.years.length) (sizes r z c) := by
  have h0 : (⟨[], F6.no⟩ : Fnd).last.at c = false := by
    have : c = 0 ∨ c = 1 ∨ c = 2 ∨ c = 3 ∨ c = 4 ∨ c = 5 := by omega
    rcases this with rfl | rfl | rfl | rfl | rfl | rfl <;> rfl
  have := tryL_ok (c := c) (good := goodF r z c) (F := fun m s => tryS r z c m [] 0 s) (G := fun m => (combos z.years.length m 0).map fun t => [] ++ t) (fun m s h => tryS_ok (r := r) (z := z) hc m [] 0 s h) (z.years.length + 1) 0 ⟨[], F6.no⟩ h0
  simpa [sizes, allC] using this
theorem falseR_ok {r : Rule} {z : Zone} {c : Nat} (h : fault r z = 0) (hc : (c : Int) < r.classes) : falseR r z c = match (allC z.years.length).find? (goodF r z c) with
    | some t => (t, 0)
    | none => ([], 7) := by
  have hc6 : c < 6 := by have := (fault_okR h).c2; omega
  have hs := sizes_ok (r := r) (z := z) hc6
  unfold falseR
  rw [if_neg (by simpa using h), if_pos (by simp only [within, decide_eq_true_eq]; omega)]
  simp only [Int.toNat_natCast]
  cases ht : (allC z.years.length).find? (goodF r z c) with
  | some t =>
    obtain ⟨_, h2, h3⟩ := hs.yes t ht
    rw [if_pos h3, h2]
  | none =>
    obtain ⟨_, h3⟩ := hs.no ht
    rw [if_neg (by rw [h3]; simp)]

/-! ### The lists that are tried -/
theorem combos_mem {n : Nat} : ∀ {m k : Nat} {t : List Int}, t ∈ combos n m k ↔ t.length = m ∧ t.Pairwise (· < ·) ∧ ∀ x ∈ t, (k : Int) ≤ x ∧ x < n
  | 0, k, t => by
    simp only [combos, List.mem_singleton]
    constructor
    · rintro rfl; simp
    · rintro ⟨h, _⟩; exact List.eq_nil_of_length_eq_zero h
  | m + 1, k, t => by
    simp only [combos, List.mem_flatMap, List.mem_range'_1, List.mem_map]
    constructor
    · rintro ⟨i, hi, u, hu, rfl⟩
      obtain ⟨h1, h2, h3⟩ := combos_mem.1 hu
      refine ⟨by simp [h1], List.pairwise_cons.2 ⟨fun x hx => by have := (h3 x hx).1; omega, h2⟩, ?_⟩
      intro x hx
      rcases List.mem_cons.1 hx with rfl | hx
      · omega
      · have := h3 x hx; omega
    · rintro ⟨h1, h2, h3⟩
      cases t with
      | nil => simp at h1
      | cons x u =>
        obtain ⟨h4, h5⟩ := List.pairwise_cons.1 h2
        have hx := h3 x (by simp)
        refine ⟨x.toNat, ?_, u, combos_mem.2 ⟨by simpa using h1, h5, fun y hy => ?_⟩, ?_⟩
        · have := rising_len (n := n) u (x.toNat + 1) h5 (fun y hy => ⟨by have := h4 y hy; omega, (h3 y (by simp [hy])).2⟩)
          simp at h1
          omega
        · have := h4 y hy
          have := (h3 y (by simp [hy])).2
          omega
        · rw [Int.toNat_of_nonneg (by omega)]
where
  rising_len {n : Nat} : ∀ (u : List Int) (k : Nat), u.Pairwise (· < ·) → (∀ y ∈ u, (k : Int) ≤ y ∧ y < n) → u.length + k ≤ max n k
    | [], k, _, _ => by simp; omega
    | x :: u, k, h, hb => by
      obtain ⟨h4, h5⟩ := List.pairwise_cons.1 h
      have hx := hb x (by simp)
      have := rising_len (n := n) u (x.toNat + 1) h5 fun y hy => ⟨by have := h4 y hy; omega, (hb y (by simp [hy])).2⟩
      simp only [List.length_cons]
      omega
theorem allC_mem {n : Nat} {t : List Int} : t ∈ allC n ↔ t.Pairwise (· < ·) ∧ ∀ x ∈ t, 0 ≤ x ∧ x < n := by
  simp only [allC, List.mem_flatMap, List.mem_range'_1]
  constructor
  · rintro ⟨m, _, h⟩
    obtain ⟨_, h2, h3⟩ := combos_mem.1 h
    exact ⟨h2, fun x hx => by have := h3 x hx; omega⟩
  · rintro ⟨h1, h2⟩
    refine ⟨t.length, ?_, combos_mem.2 ⟨rfl, h1, fun x hx => by have := h2 x hx; omega⟩⟩
    have := combos_mem.rising_len (n := n) t 0 h1 fun x hx => by have := h2 x hx; omega
    omega
/-- In a list of lists the shorter ones, and of one length the lexicographically smaller ones, come first. -/
def LexB (a b : List Int) : Prop := a.length < b.length ∨ (a.length = b.length ∧ lexLt a b = true)
theorem combos_sorted {n : Nat} : ∀ {m k : Nat}, (combos n m k).Pairwise LexB
  | 0, _ => by simp [combos]
  | m + 1, k => by
    simp only [combos]
    rw [List.pairwise_flatMap]
    refine ⟨fun i _ => ?_, ?_⟩
    · rw [List.pairwise_map]
      refine List.Pairwise.imp ?_ (combos_sorted (m := m) (k := i + 1))
      rintro a b (h | ⟨h, h'⟩)
      · exact .inl (by simpa using h)
      · exact .inr ⟨by simpa using h, by simpa [lexLt] using h'⟩
    · refine List.Pairwise.imp ?_ (List.pairwise_lt_range' (s := k) (n := n - m - k))
      intro i j hij a ha b hb
      obtain ⟨u, hu, rfl⟩ := List.mem_map.1 ha
      obtain ⟨v, hv, rfl⟩ := List.mem_map.1 hb
      refine .inr ⟨by simp [(combos_mem.1 hu).1, (combos_mem.1 hv).1], ?_⟩
      simp only [lexLt]
      rw [if_neg (by omega)]
      simpa using hij
theorem allC_sorted (n : Nat) : (allC n).Pairwise LexB := by
  unfold allC
  rw [List.pairwise_flatMap]
  refine ⟨fun m _ => combos_sorted, ?_⟩
  refine List.Pairwise.imp ?_ (List.pairwise_lt_range' (s := 0) (n := n + 1))
  intro i j hij a ha b hb
  left
  rw [(combos_mem.1 ha).1, (combos_mem.1 hb).1]
  exact hij
/-- The first one that will do: no other one is before it. -/
theorem find_first {α : Type} {R : α → α → Prop} {p : α → Bool} : ∀ {L : List α} {t : α}, L.Pairwise R → L.find? p = some t → p t = true ∧ t ∈ L ∧ ∀ u ∈ L, p u = true → u = t ∨ R t u
  | [], t, _, h => by simp at h
  | a :: L, t, hs, h => by
    obtain ⟨h1, h2⟩ := List.pairwise_cons.1 hs
    rw [List.find?_cons] at h
    split at h
    · rename_i hp
      cases h
      refine ⟨hp, by simp, fun u hu _ => ?_⟩
      rcases List.mem_cons.1 hu with rfl | hu
      · exact .inl rfl
      · exact .inr (h1 u hu)
    · rename_i hp
      obtain ⟨h3, h4, h5⟩ := find_first h2 h
      refine ⟨h3, by simp [h4], fun u hu hpu => ?_⟩
      rcases List.mem_cons.1 hu with rfl | hu
      · rw [hpu] at hp; simp at hp
      · exact h5 u hu hpu
end Go.Proofs.Ytelnonfenpjjcaa
