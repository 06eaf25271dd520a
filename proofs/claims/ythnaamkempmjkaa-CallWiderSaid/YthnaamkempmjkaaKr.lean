/- The lists that are tried for Missed, and the first one that will do. -/
import Derived.Test.YthnaamkempmjkaaKq
set_option linter.unusedSimpArgs false
set_option linter.unusedVariables false
open Go Go.TV
namespace Go.Proofs.Ythnaamkempmjkaa

/-- The rising lists of m numbers from k on, below n, the lexicographically smaller ones first. -/
def combos (n : Nat) : Nat → Nat → List (List Int)
  | 0, _ => [[]]
  | m + 1, k => (List.range' k (n - m - k)).flatMap fun i => (combos n m (i + 1)).map fun t => (i : Int) :: t
/-- All lists, the shorter ones first. -/
def allC (n : Nat) : List (List Int) := (List.range' 0 (n + 1)).flatMap fun m => combos n m 0
/-- Whether something is short if these are not asked. -/
def goodM (s : Soc) (t : List Int) : Bool := decide (0 < (shortOf s t).hi)
/-- What a try ends with. -/
structure TryOK (good : List Int → Bool) (L : List (List Int)) (res : Bool × List Int) : Prop where
  yes : ∀ t, L.find? good = some t → res.1 = true ∧ res.2 = t
  no : L.find? good = none → res.1 = false
theorem tryM_ok {good : List Int → Bool} {F : Nat → List Int → Bool × List Int} {G : Nat → List (List Int)} (hF : ∀ i s, TryOK good (G i) (F i s)) :
    ∀ (n k : Nat) (s : List Int), TryOK good ((List.range' k n).flatMap G) (tryM F n k s)
  | 0, k, s => ⟨fun t ht => by simp at ht, fun _ => rfl⟩
  | n + 1, k, s => by
    have h1 := hF k s
    simp only [List.range'_succ, List.flatMap_cons, tryM]
    cases hf : (G k).find? good with
    | some t =>
      obtain ⟨a, b⟩ := h1.yes t hf
      rw [if_pos a]
      constructor
      · intro t' ht'
        rw [List.find?_append, hf] at ht'
        simp at ht'
        subst ht'
        exact ⟨rfl, b⟩
      · intro hn
        rw [List.find?_append, hf] at hn
        simp at hn
    | none =>
      have a := h1.no hf
      rw [if_neg (by rw [a]; simp)]
      have h2 := tryM_ok hF n (k + 1) (F k s).2
      constructor
      · intro t' ht'
        rw [List.find?_append, hf] at ht'
        exact h2.yes t' (by simpa using ht')
      · intro hn
        rw [List.find?_append, hf] at hn
        exact h2.no (by simpa using hn)
theorem tryS_ok {s : Soc} : ∀ (m : Nat) (out : List Int) (k : Nat) (fd : List Int),
    TryOK (goodM s) ((combos s.members.length m k).map fun t => out ++ t) (tryS s m out k fd)
  | 0, out, k, fd => by
    simp only [combos, List.map_cons, List.map_nil, List.append_nil, tryS]
    cases hg : goodM s out with
    | true =>
      constructor
      · intro t ht
        simp [hg] at ht
        subst ht
        exact ⟨hg, rfl⟩
      · intro hn; simp [hg] at hn
    | false =>
      constructor
      · intro t ht; simp [hg] at ht
      · intro _
        exact hg
  | m + 1, out, k, fd => by
    have := tryM_ok (good := goodM s) (F := fun i fd => tryS s m (out ++ [(i : Int)]) (i + 1) fd) (G := fun i => (combos s.members.length m (i + 1)).map fun t => (out ++ [(i : Int)]) ++ t) (fun i fd => tryS_ok m (out ++ [(i : Int)]) (i + 1) fd) (s.members.length - m - k) k fd
    simp only [combos, tryS, List.map_flatMap, List.map_map]
    have e : (fun i : Nat => (combos s.members.length m (i + 1)).map ((fun t => out ++ t) ∘ fun t => (i : Int) :: t)) = fun i : Nat => (combos s.members.length m (i + 1)).map fun t => (out ++ [(i : Int)]) ++ t := by
      funext i
      apply List.map_congr_left
      intro t _
      simp
    rw [e]
    exact this
theorem sizesM_ok {s : Soc} : TryOK (goodM s) (allC s.members.length) (sizesM s) := by
  have := tryM_ok (good := goodM s) (F := fun m fd => tryS s m [] 0 fd) (G := fun m => (combos s.members.length m 0).map fun t => [] ++ t) (fun m fd => tryS_ok (s := s) m [] 0 fd) (s.members.length + 1) 0 []
  simpa [sizesM, allC] using this
theorem missedR_ok {s : Soc} (h : fault s = 0) : missedR s = match (allC s.members.length).find? (goodM s) with
    | some t => (t, 0)
    | none => ([], 7) := by
  have hs := sizesM_ok (s := s)
  unfold missedR
  rw [if_neg (by simpa using h)]
  cases ht : (allC s.members.length).find? (goodM s) with
  | some t =>
    obtain ⟨h2, h3⟩ := hs.yes t ht
    rw [if_pos h2, h3]
  | none =>
    rw [if_neg (by rw [hs.no ht]; simp)]
/-! ### The lists that are tried -/
theorem combos_mem {n : Nat} : ∀ {m k : Nat} {t : List Int}, t ∈ combos n m k ↔ t.length = m ∧ t.Pairwise (· < ·) ∧ ∀ x ∈ t, (k : Int) ≤ x ∧ x < n
  | 0, k, t => by
    simp only [combos, List.mem_singleton]
    constructor
    · rintro rfl; simp
    · rintro ⟨h, _⟩; exact List.eq_nil_of_length_eq_zero h
  | m + 1, k, t => by
    simp only [combos, List.mem_flatMap, List.mem_range'_1, List.mem_map]
    constructor
    · rintro ⟨i, hi, u, hu, rfl⟩
      obtain ⟨h1, h2, h3⟩ := combos_mem.1 hu
      refine ⟨by simp [h1], List.pairwise_cons.2 ⟨fun x hx => by have := (h3 x hx).1; omega, h2⟩, ?_⟩
      intro x hx
      rcases List.mem_cons.1 hx with rfl | hx
      · omega
      · have := h3 x hx; omega
    · rintro ⟨h1, h2, h3⟩
      cases t with
      | nil => simp at h1
      | cons x u =>
        obtain ⟨h4, h5⟩ := List.pairwise_cons.1 h2
        have hx := h3 x (by simp)
        refine ⟨x.toNat, ?_, u, combos_mem.2 ⟨by simpa using h1, h5, fun y hy => ?_⟩, ?_⟩
        · have := rising_len (n := n) u (x.toNat + 1) h5 (fun y hy => ⟨by have := h4 y hy; omega, (h3 y (by simp [hy])).2⟩)
          simp at h1
          omega
        · have := h4 y hy
          have := (h3 y (by simp [hy])).2
          omega
        · rw [Int.toNat_of_nonneg (by omega)]
where
  rising_len {n : Nat} : ∀ (u : List Int) (k : Nat), u.Pairwise (· < ·) → (∀ y ∈ u, (k : Int) ≤ y ∧ y < n) → u.length + k ≤ max n k
    | [], k, _, _ => by simp; omega
    | x :: u, k, h, hb => by
      obtain ⟨h4, h5⟩ := List.pairwise_cons.1 h
      have hx := hb x (by simp)
      have := rising_len (n := n) u (x.toNat + 1) h5 fun y hy => ⟨by have := h4 y hy; omega, (hb y (by simp [hy])).2⟩
      simp only [List.length_cons]
      omega
theorem allC_mem {n : Nat} {t : List Int} : t ∈ allC n ↔ t.Pairwise (· < ·) ∧ ∀ x ∈ t, 0 ≤ x ∧ x < n := by
  simp only [allC, List.mem_flatMap, List.mem_range'_1]
  constructor
  · rintro ⟨m, _, h⟩
    obtain ⟨_, h2, h3⟩ := combos_mem.1 h
    exact ⟨h2, fun x hx => by have := h3 x hx; omega⟩
  · rintro ⟨h1, h2⟩
    refine ⟨t.length, ?_, combos_mem.2 ⟨rfl, h1, fun x hx => by have := h2 x hx; omega⟩⟩
    have := combos_mem.rising_len (n := n) t 0 h1 fun x hx => by have := h2 x hx; omega
    omega
/-- In a list of lists the shorter ones, and of one length the lexicographically smaller ones, come first. -/
def LexB (a b : List Int) : Prop := a.length < b.length ∨ (a.length = b.length ∧ lexLt a b = true)
theorem combos_sorted {n : Nat} : ∀ {m k : Nat}, (combos n m k).Pairwise LexB
  | 0, _ => by simp [combos]
  | m + 1, k => by
    simp only [combos]
    rw [List.pairwise_flatMap]
    refine ⟨fun i _ => ?_, ?_⟩
    · rw [List.pairwise_map]
      refine List.Pairwise.imp ?_ (combos_sorted (m := m) (k := i + 1))
      rintro a b (h | ⟨h, h'⟩)
      · exact .inl (by simpa using h)
      · exact .inr ⟨by simpa using h, by simpa [lexLt] using h'⟩
    · refine List.Pairwise.imp ?_ (List.pairwise_lt_range' (s := k) (n := n - m - k))
      intro i j hij a ha b hb
      obtain ⟨u, hu, rfl⟩ := List.mem_map.1 ha
      obtain ⟨v, hv, rfl⟩ := List.mem_map.1 hb
      refine .inr ⟨by simp [(combos_mem.1 hu).1, (combos_mem.1 hv).1], ?_⟩
      simp only [lexLt]
      rw [if_neg (by omega)]
      simpa using hij
theorem allC_sorted (n : Nat) : (allC n).Pairwise LexB := by
  unfold allC
  rw [List.pairwise_flatMap]
  refine ⟨fun m _ => combos_sorted, ?_⟩
  refine List.Pairwise.imp ?_ (List.pairwise_lt_range' (s := 0) (n := n + 1))
  intro i j hij a ha b hb
  left
  rw [(combos_mem.1 ha).1, (combos_mem.1 hb).1]
  exact hij
/-- The first one that will do: no other one is before it. -/
theorem find_first {α : Type} {R : α → α → Prop} {p : α → Bool} : ∀ {L : List α} {t : α}, L.Pairwise R → L.find? p = some t → p t = true ∧ t ∈ L ∧ ∀ u ∈ L, p u = true → u = t ∨ R t u
  | [], t, _, h => by simp at h
  | a :: L, t, hs, h => by
    obtain ⟨h1, h2⟩ := List.pairwise_cons.1 hs
    rw [List.find?_cons] at h
    split at h
    · rename_i hp
      cases h
      refine ⟨hp, by simp, fun u hu _ => ?_⟩
      rcases List.mem_cons.1 hu with rfl | hu
      · exact .inl rfl
      · exact .inr (h1 u hu)
    · rename_i hp
      obtain ⟨h3, h4, h5⟩ := find_first h2 h
      refine ⟨h3, by simp [h4], fun u hu hpu => ?_⟩
      rcases List.mem_cons.1 hu with rfl | hu
      · rw [hpu] at hp; simp at hp
      · exact h5 u hu hpu
end Go.Proofs.Ythnaamkempmjkaa
