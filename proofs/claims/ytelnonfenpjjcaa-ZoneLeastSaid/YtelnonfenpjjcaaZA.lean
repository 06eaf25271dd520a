/- The numbers of bits; the document's False is the program's. -/
import Derived.Test.YtelnonfenpjjcaaZy
set_option linter.unusedSimpArgs false
set_option linter.unusedVariables false
open Go Go.TV
namespace Go.Proofs.Ytelnonfenpjjcaa

def bitsN (o n : Nat) : List Int := ((List.range n).filter (bitN o)).map fun (i : Nat) => (i : Int)
theorem bitsN_sorted (o n : Nat) : (bitsN o n).Pairwise (· < ·) := cast_sorted (filter_range_sorted _ _)
theorem mem_bitsN {o n : Nat} {x : Int} : x ∈ bitsN o n ↔ ∃ i : Nat, i < n ∧ bitN o i = true ∧ x = i := by
  simp only [bitsN, List.mem_map, List.mem_filter, List.mem_range]
  constructor
  · rintro ⟨i, ⟨h1, h2⟩, rfl⟩; exact ⟨i, h1, h2, rfl⟩
  · rintro ⟨i, h1, h2, rfl⟩; exact ⟨i, ⟨h1, h2⟩, rfl⟩
theorem bitsN_succ (o n : Nat) : bitsN o (n + 1) = if bitN o n = true then bitsN o n ++ [(n : Int)] else bitsN o n := by
  simp only [bitsN, List.range_succ, List.filter_append, List.map_append]
  split <;> simp_all
theorem bitN_high {o n : Nat} (h : o < 2 ^ n) {i : Nat} (hi : n ≤ i) : bitN o i = false := by
  have : o < 2 ^ i := Nat.lt_of_lt_of_le h (Nat.pow_le_pow_right (by omega) hi)
  simp only [bitN, Nat.shiftRight_eq_div_pow, Nat.div_eq_of_lt this]
  simp
theorem bitsN_more {o n : Nat} (h : o < 2 ^ n) : ∀ d, bitsN o (n + d) = bitsN o n
  | 0 => rfl
  | d + 1 => by
    rw [show n + (d + 1) = (n + d) + 1 by omega, bitsN_succ, bitN_high h (by omega)]
    simp [bitsN_more h d]
theorem bitsN_contains {o n i : Nat} (h : i < n) : (bitsN o n).contains (i : Int) = bitN o i := by
  rw [Bool.eq_iff_iff, List.contains_iff_mem, mem_bitsN]
  constructor
  · rintro ⟨j, _, h2, h3⟩
    have : i = j := by omega
    subst this; exact h2
  · intro h2; exact ⟨i, h, h2, rfl⟩
theorem bits_exist : ∀ (n : Nat) (f : Nat → Bool), ∃ o, o < 2 ^ n ∧ ∀ i, i < n → bitN o i = f i
  | 0, _ => ⟨0, by simp, fun i hi => by omega⟩
  | n + 1, f => by
    obtain ⟨o, h1, h2⟩ := bits_exist n fun i => f (i + 1)
    refine ⟨2 * o + (if f 0 = true then 1 else 0), ?_, ?_⟩
    · rw [Nat.pow_succ]; split <;> omega
    · intro i hi
      cases i with
      | zero =>
        simp only [bitN, Nat.shiftRight_zero]
        split
        · rename_i h; rw [h]; simp
        · rename_i h; simp only [Bool.not_eq_true] at h; rw [h]; simp
      | succ i =>
        have e : (2 * o + (if f 0 = true then 1 else 0)) / 2 = o := by split <;> omega
        rw [← h2 i (by omega)]
        simp only [bitN, Nat.shiftRight_succ_inside, e]
theorem bits_of_list {n : Nat} {t : List Int} (h1 : t.Pairwise (· < ·)) (h2 : ∀ x ∈ t, 0 ≤ x ∧ x < n) : ∃ o, o < 2 ^ n ∧ bitsN o n = t := by
  obtain ⟨o, h3, h4⟩ := bits_exist n fun i => t.contains (i : Int)
  refine ⟨o, h3, sorted_ext (bitsN_sorted _ _) h1 fun x => ?_⟩
  rw [mem_bitsN]
  constructor
  · rintro ⟨i, h5, h6, rfl⟩
    rw [h4 i h5] at h6
    exact List.contains_iff_mem.1 h6
  · intro hx
    have := h2 x hx
    refine ⟨x.toNat, by omega, ?_, (Int.toNat_of_nonneg this.1).symm⟩
    rw [h4 _ (by omega), Int.toNat_of_nonneg this.1]
    exact List.contains_iff_mem.2 hx

/-! ### The order of lists -/
theorem lexLt_trans : ∀ {a b c : List Int}, a.length = b.length → b.length = c.length → lexLt a b = true → lexLt b c = true → lexLt a c = true
  | [], [], c, _, _, h, _ => by simp [lexLt] at h
  | [], _ :: _, _, h, _, _, _ => by simp at h
  | _ :: _, [], _, h, _, _, _ => by simp at h
  | x :: a, y :: b, [], _, h, _, _ => by simp at h
  | x :: a, y :: b, w :: c, h1, h2, h3, h4 => by
    simp only [lexLt] at h3 h4 ⊢
    by_cases e1 : x = y
    · subst e1
      rw [if_pos rfl] at h3
      by_cases e2 : x = w
      · subst e2
        rw [if_pos rfl] at h4 ⊢
        exact lexLt_trans (by simpa using h1) (by simpa using h2) h3 h4
      · rw [if_neg e2] at h4 ⊢; exact h4
    · rw [if_neg e1] at h3
      by_cases e2 : y = w
      · subst e2
        rw [if_neg e1]; exact h3
      · rw [if_neg e2] at h4
        simp only [decide_eq_true_eq] at h3 h4
        rw [if_neg (by omega)]
        simp only [decide_eq_true_eq]; omega
theorem LexB.trans {a b c : List Int} (h1 : LexB a b) (h2 : LexB b c) : LexB a c := by
  rcases h1 with h1 | ⟨h1, h1'⟩ <;> rcases h2 with h2 | ⟨h2, h2'⟩
  · exact .inl (by omega)
  · exact .inl (by omega)
  · exact .inl (by omega)
  · exact .inr ⟨by omega, lexLt_trans h1 h2 h1' h2'⟩
theorem LexB.irrefl {a : List Int} (h : LexB a a) : False := by
  rcases h with h | ⟨_, h⟩
  · omega
  · rw [lexLt_irrefl] at h; cases h
def shorter (a b : List Int) : Bool := decide (a.length < b.length) || (decide (a.length = b.length) && lexLt a b)
theorem shorter_iff {a b : List Int} : shorter a b = true ↔ LexB a b := by simp [shorter, LexB]
theorem not_shorter {a b : List Int} (h : shorter a b = false) : a = b ∨ LexB b a := by
  simp only [shorter, Bool.or_eq_false_iff, decide_eq_false_iff_not, Bool.and_eq_false_iff] at h
  obtain ⟨h1, h2⟩ := h
  rcases Nat.lt_or_ge b.length a.length with h3 | h3
  · exact .inr (.inl h3)
  · have e : a.length = b.length := by omega
    rcases h2 with h2 | h2
    · exact absurd e h2
    · cases h4 : lexLt b a with
      | true => exact .inr (.inr ⟨e.symm, h4⟩)
      | false => exact .inl (lexLt_eq e h2 h4)

/-- The document's False, after some bits. -/
def bestO (r : Rule) (z : Zone) (c : Int) : Nat → Option (List Int)
  | 0 => none
  | n + 1 => if (match bestO r z c n with | none => true | some b => shorter (bitsN n 10) b) = true ∧ c ∈ refR r z z.years.length n then some (bitsN n 10) else bestO r z c n
theorem bestO_spec (r : Rule) (z : Zone) (c : Int) : ∀ n, (∀ b, bestO r z c n = some b → (∃ m, m < n ∧ b = bitsN m 10 ∧ c ∈ refR r z z.years.length m) ∧ ∀ m, m < n → c ∈ refR r z z.years.length m → bitsN m 10 = b ∨ LexB b (bitsN m 10)) ∧
    (bestO r z c n = none → ∀ m, m < n → ¬ c ∈ refR r z z.years.length m)
  | 0 => ⟨fun b h => by simp [bestO] at h, fun _ m hm => by omega⟩
  | n + 1 => by
    obtain ⟨i1, i2⟩ := bestO_spec r z c n
    simp only [bestO]
    cases hb : bestO r z c n with
    | none =>
      have i2 := i2 hb
      by_cases hc : c ∈ refR r z z.years.length n
      · rw [if_pos ⟨rfl, hc⟩]
        refine ⟨fun b h => ?_, fun h => by cases h⟩
        cases h
        refine ⟨⟨n, by omega, rfl, hc⟩, fun m hm hg => ?_⟩
        by_cases e : m = n
        · subst e; exact .inl rfl
        · exact absurd hg (i2 m (by omega))
      · rw [if_neg (fun h => hc h.2)]
        refine ⟨fun b h => (by cases h), fun _ m hm => ?_⟩
        by_cases e : m = n
        · subst e; exact hc
        · exact i2 m (by omega)
    | some b0 =>
      obtain ⟨⟨m0, h1, h2, h3⟩, h4⟩ := i1 b0 hb
      by_cases hc : shorter (bitsN n 10) b0 = true ∧ c ∈ refR r z z.years.length n
      · rw [if_pos hc]
        refine ⟨fun b h => ?_, fun h => by cases h⟩
        cases h
        refine ⟨⟨n, by omega, rfl, hc.2⟩, fun m hm hg => ?_⟩
        by_cases e : m = n
        · subst e; exact .inl rfl
        · have h5 := shorter_iff.1 hc.1
          rcases h4 m (by omega) hg with h6 | h6
          · exact .inr (by rw [h6]; exact h5)
          · exact .inr (h5.trans h6)
      · rw [if_neg hc]
        refine ⟨fun b h => ?_, fun h => by cases h⟩
        cases h
        refine ⟨⟨m0, by omega, h2, h3⟩, fun m hm hg => ?_⟩
        by_cases e : m = n
        · subst e
          have h5 : shorter (bitsN m 10) b0 = false := by
            cases h : shorter (bitsN m 10) b0 with
            | false => rfl
            | true => exact absurd ⟨h, hg⟩ hc
          exact not_shorter h5
        · exact h4 m (by omega) hg
/-- **The program's False is the document's.** -/
theorem false_best {r : Rule} {z : Zone} {c : Nat} (h0 : fault r z = 0) (hc : (c : Int) < r.classes) : falseR r z c = match bestO r z c (2 ^ z.years.length) with
    | some b => (b, 0)
    | none => ([], 7) := by
  have hl6 := fault_len h0
  rw [falseR_ok h0 hc]
  obtain ⟨s1, s2⟩ := bestO_spec r z c (2 ^ z.years.length)
  have hbits : ∀ o, o < 2 ^ z.years.length → bitsN o 10 = bitsN o z.years.length := fun o ho => by
    rw [show 10 = z.years.length + (10 - z.years.length) by omega]; exact bitsN_more ho _
  have hgood : ∀ o, o < 2 ^ z.years.length → (goodF r z c (bitsN o z.years.length) = true ↔ (c : Int) ∈ refR r z z.years.length o) := by
    intro o ho
    rw [refR_eq h0 (out := bitsN o z.years.length) (fun i hi => bitsN_contains hi) (Nat.le_refl _), mem_classes]
    unfold goodF
    exact ⟨fun h => ⟨by omega, hc, h⟩, fun h => h.2.2⟩
  have hin : ∀ o, o < 2 ^ z.years.length → bitsN o z.years.length ∈ allC z.years.length := fun o _ => allC_mem.2 ⟨bitsN_sorted _ _, fun x hx => by
    obtain ⟨i, h1, _, rfl⟩ := mem_bitsN.1 hx; omega⟩
  cases hf : (allC z.years.length).find? (goodF r z c) with
  | some t =>
    obtain ⟨f1, f2, f3⟩ := find_first (allC_sorted _) hf
    obtain ⟨t1, t2⟩ := allC_mem.1 f2
    obtain ⟨o, o1, o2⟩ := bits_of_list t1 t2
    cases hb : bestO r z c (2 ^ z.years.length) with
    | some b =>
      obtain ⟨⟨m, m1, m2, m3⟩, m4⟩ := s1 b hb
      have e1 := m4 o o1 ((hgood o o1).1 (by rw [o2]; exact f1))
      rw [hbits o o1, o2] at e1
      have e2 := f3 (bitsN m z.years.length) (hin m m1) ((hgood m m1).2 m3)
      rw [← hbits m m1, ← m2] at e2
      rcases e1 with rfl | e1
      · rfl
      · rcases e2 with rfl | e2
        · rfl
        · exact absurd (e1.trans e2) LexB.irrefl
    | none =>
      exact absurd ((hgood o o1).1 (by rw [o2]; exact f1)) (s2 hb o o1)
  | none =>
    cases hb : bestO r z c (2 ^ z.years.length) with
    | some b =>
      obtain ⟨⟨m, m1, m2, m3⟩, m4⟩ := s1 b hb
      have := List.find?_eq_none.1 hf _ (hin m m1)
      exact absurd ((hgood m m1).2 m3) this
    | none => rfl
end Go.Proofs.Ytelnonfenpjjcaa
