/- ZoneTruth: what a truth shows lies within what is said of all truths. -/
import Derived.Test.YtelnonfenpjjcaaZI2
import Derived.Test.YtelnonfenpjjcaaZt
set_option linter.unusedSimpArgs false
set_option linter.unusedVariables false
open Go Go.TV
namespace Go.Proofs.Ytelnonfenpjjcaa

theorem playR_good {r : Rule} {z : Zone} {t : Truth} (h : fault r z = 0) (ht : isTruth z t = true) : playR r z t = (playT r z t z.years.length, 0) := by
  unfold playR; rw [if_neg (by simpa using h), if_pos ht]
theorem playT_at {r : Rule} {z : Zone} {t : Truth} {n i : Nat} (h : i < n) : (playT r z t n)[i]? = some (spotT r z.first z.years t (i + 1)).class_ := by
  simp [playT, List.getElem?_map, List.getElem?_range h]
theorem picked_okY {r : Rule} {z : Zone} (h0 : fault r z = 0) : ∀ y ∈ z.years, (0 ≤ y.l.lo ∧ y.l.lo ≤ y.l.hi ∧ y.l.hi ≤ 10000) ∧ 0 ≤ y.p.lo ∧ y.p.lo ≤ y.p.hi ∧ y.p.hi ≤ 10000 := by
  intro y hy
  obtain ⟨l1, l2, l3, p1, p2, p3, g1, g2, g3, g4⟩ := fault_okY h0 y hy
  omega
/-- The kind of a year in a truth is one that it can be. -/
theorem kind_can {r : Rule} {y : Year} {a b : Int} (h1 : y.l.lo ≤ a) (h2 : a ≤ y.l.hi) (h3 : y.p.lo ≤ b) (h4 : b ≤ y.p.hi) : kind r y a b ∈ can r y false := by
  have := kind_le r y a b
  simp only [can, List.mem_filter, seen, Bool.false_eq_true, false_and, if_false, List.any_eq_true]
  refine ⟨?_, a, mem_every.2 ⟨h1, h2⟩, b, mem_every.2 ⟨h3, h4⟩, by simp⟩
  simp; omega
theorem spotT_reach {r : Rule} {z : Zone} {t : Truth} (ht : isTruth z t = true) : ∀ n, n ≤ z.years.length → spotT r z.first z.years t n ∈ reach r z.first [] z.years n
  | 0, _ => by simp [spotT, reach]
  | n + 1, hn => by
    have hy : z.years[n]? = some z.years[n] := List.getElem?_eq_getElem (by omega)
    obtain ⟨a, b, ha, hb, q1, q2, q3, q4⟩ := isTruth_at ht hy
    rw [spotT_succ hy, reach_succ hy]
    simp only [steps, List.mem_flatMap, List.mem_map]
    refine ⟨_, spotT_reach ht n (by omega), _, ?_, rfl⟩
    simp only [List.getD_eq_getElem?_getD, ha, hb, Option.getD_some, List.contains_nil]
    exact kind_can q1 q2 q3 q4
/-- The classes that a zone can have. -/
def reachC (r : Rule) (z : Zone) (n : Nat) : List Int := classes r (reach r z.first [] z.years n)
theorem reachC_mem {r : Rule} {z : Zone} {t : Truth} (h0 : fault r z = 0) (ht : isTruth z t = true) {n : Nat} (hn : n ≤ z.years.length) : (spotT r z.first z.years t n).class_ ∈ reachC r z n := by
  have hm := spotT_reach (r := r) ht n hn
  have hk := reach_ok (fault_okR h0) (fault_first h0).1 (fault_first h0).2 [] z.years n _ hm
  exact mem_classes.2 ⟨hk.a1, hk.a2, hasC_iff.2 ⟨_, hm, rfl⟩⟩
theorem reachC_len (r : Rule) (z : Zone) (n : Nat) : (reachC r z n).length ≤ r.classes.toNat := by
  simp only [reachC, classes, upC, List.length_map]; exact Nat.le_trans (List.length_filter_le _ _) (by simp)
theorem reachC_zero {r : Rule} {z : Zone} (h0 : fault r z = 0) : reachC r z 0 = [z.first] := by
  have hf := fault_first h0
  have hs := classes_sorted r (reach r z.first [] z.years 0)
  have hall : ∀ c, c ∈ reachC r z 0 ↔ c = z.first := fun c => by
    unfold reachC
    rw [mem_classes, hasC_iff]
    simp only [reach, List.mem_singleton, exists_eq_left]
    constructor
    · rintro ⟨_, _, rfl⟩; rfl
    · rintro rfl; exact ⟨hf.1, hf.2, rfl⟩
  change (reachC r z 0).Pairwise (· < ·) at hs
  match hc : reachC r z 0, hs, hall with
  | [], _, hal => exact absurd ((hal z.first).2 rfl) (by simp)
  | [a], _, hal => rw [(hal a).1 (by simp)]
  | a :: b :: l, hs, hal =>
    have h1 := List.rel_of_pairwise_cons hs (List.mem_cons_self (a := b) (l := l))
    have h2 := (hal a).1 (by simp)
    have h3 := (hal b).1 (by simp)
    omega
/-- What is said of one year, and what a truth shows of it. -/
structure OneYear (C : Int) (c c' : Int) (v K : Int) : Prop where
  v1 : 1 ≤ v ∧ v ≤ 3
  no : v = 2 → c' = c
  yes : v = 1 → c' ≠ c
  k1 : 0 ≤ K ∧ K ≤ 3
  same : K = 0 ∨ K = 3 → c' = c
  bad : K = 2 → c' = min (c + 1) (C - 1)
  good : K = 1 → c' = c ∨ c' = c - 1
theorem one_year {r : Rule} {z : Zone} {t : Truth} (h0 : fault r z = 0) (ht : isTruth z t = true) {i : Nat} {y : Year} {a b : Int} (hy : z.years[i]? = some y) (ha : t.losses[i]? = some a) (hb : t.premiums[i]? = some b) :
    OneYear r.classes (spotT r z.first z.years t i).class_ (spotT r z.first z.years t (i + 1)).class_ (movesR r z i).1 (rkind r y a b) := by
  have hi := (List.getElem?_eq_some_iff.1 hy).1
  obtain ⟨a', b', ha', hb', q1, q2, q3, q4⟩ := isTruth_at ht hy
  rw [ha] at ha'; rw [hb] at hb'
  cases ha'; cases hb'
  have hp := (fault_okY h0 y (List.mem_of_getElem? hy)).p1
  have hx := spotT_reach (r := r) ht i (by omega)
  have hk := kind_can (r := r) q1 q2 q3 q4
  have hok := spotT_ok (fault_okR h0) (fault_first h0).1 (fault_first h0).2 z.years t i
  have hm : ∀ w : Bool, movesAt r z.first [] z.years (i + 1) w = true ↔ ∃ x ∈ reach r z.first [] z.years i, ∃ k ∈ can r y false, decide ((move r k x).class_ ≠ x.class_) = w := fun w => by
    rw [movesAt_succ hy]
    simp only [moves, List.any_eq_true, List.contains_nil, beq_iff_eq]
  have hrk := rkind_kind (r := r) (y := y) (l := a) (p := b) (fault_gb h0).2 (by omega)
  have hlt := rkind_lt r y a b
  rw [spotT_succ hy]
  simp only [List.getD_eq_getElem?_getD, ha, hb, Option.getD_some]
  rw [movesR_good (fy_ok h0 hi)]
  dsimp only
  have hT : (move r (kind r y a b) (spotT r z.first z.years t i)).class_ ≠ (spotT r z.first z.years t i).class_ → movesAt r z.first [] z.years (i + 1) true = true := fun h => (hm true).2 ⟨_, hx, _, hk, by simpa using h⟩
  have hF : (move r (kind r y a b) (spotT r z.first z.years t i)).class_ = (spotT r z.first z.years t i).class_ → movesAt r z.first [] z.years (i + 1) false = true := fun h => (hm false).2 ⟨_, hx, _, hk, by simpa using h⟩
  rw [← hrk] at hT hF ⊢
  obtain ⟨o1, o2, o3, o4⟩ := hok
  generalize spotT r z.first z.years t i = S at *
  generalize rkind r y a b = K at *
  refine ⟨?_, ?_, ?_, ?_, ?_, ?_, ?_⟩
  · split
    · split <;> omega
    · omega
  · split
    · split <;> (intro h; omega)
    · rename_i h
      intro _
      exact Classical.byContradiction fun h' => h (hT h')
  · split
    · split
      · intro h; omega
      · rename_i h
        exact fun _ h' => h (hF h')
    · intro h; omega
  · omega
  · rintro (rfl | rfl) <;> rfl
  · rintro rfl; rfl
  · rintro rfl
    have e : (move r (mk 1) S).class_ = if r.rest ≤ S.since then max (S.class_ - 1) 0 else S.class_ := rfl
    rw [e]
    split <;> omega
/-! ### The price -/
theorem upTo_mono : ∀ {l : List Int} {a : Int}, upTo a l = true → ∀ (i j : Nat) (x y : Int), i ≤ j → l[i]? = some x → l[j]? = some y → a ≤ x ∧ x ≤ y
  | [], _, _, i, _, x, _, _, hx, _ => by simp at hx
  | b :: l, a, h, i, j, x, y, hij, hx, hy => by
    simp only [upTo, within, Bool.and_eq_true, decide_eq_true_eq] at h
    cases i with
    | zero =>
      simp only [List.getElem?_cons_zero, Option.some.injEq] at hx
      subst hx
      cases j with
      | zero => simp only [List.getElem?_cons_zero, Option.some.injEq] at hy; omega
      | succ j =>
        simp only [List.getElem?_cons_succ] at hy
        have := upTo_mono h.2 j j y y (Nat.le_refl _) hy hy
        omega
    | succ i =>
      cases j with
      | zero => omega
      | succ j =>
        simp only [List.getElem?_cons_succ] at hx hy
        have := upTo_mono h.2 i j x y (by omega) hx hy
        omega
theorem pr_at {r : Rule} {z : Zone} (h0 : fault r z = 0) {c : Int} (h1 : 0 ≤ c) (h2 : c < r.classes) : r.price[c.toNat]? = some (pr r c) := by
  have := fault_price h0
  obtain ⟨x, hx⟩ : ∃ x, r.price[c.toNat]? = some x := ⟨_, List.getElem?_eq_getElem (by omega)⟩
  rw [hx]; simp [pr, List.getD_eq_getElem?_getD, hx]
theorem pr_mono {r : Rule} {z : Zone} (h0 : fault r z = 0) {c d : Int} (h1 : 0 ≤ c) (h2 : c ≤ d) (h3 : d < r.classes) : pr r c ≤ pr r d := by
  have hv := (fault_valid h0).1
  simp only [Rule.valid, Bool.and_eq_true, decide_eq_true_eq] at hv
  exact (upTo_mono hv.2.1.2 c.toNat d.toNat _ _ (by omega) (pr_at h0 h1 (by omega)) (pr_at h0 (by omega) h3)).2
/-- The ends of the classes that a zone can have at last. -/
theorem reachC_ends {r : Rule} {z : Zone} {t : Truth} (h0 : fault r z = 0) (ht : isTruth z t = true) : ∃ lo hi : Int, (reachC r z z.years.length)[0]? = some lo ∧ (reachC r z z.years.length)[(reachC r z z.years.length).length - 1]? = some hi ∧ 0 < (reachC r z z.years.length).length ∧
    0 ≤ lo ∧ lo < r.classes ∧ 0 ≤ hi ∧ hi < r.classes ∧ nextR r z = (⟨pr r lo, pr r hi⟩, 0) ∧ pr r lo ≤ pr r (spotT r z.first z.years t z.years.length).class_ ∧ pr r (spotT r z.first z.years t z.years.length).class_ ≤ pr r hi := by
  have hpos := classes_ne h0 [] (Nat.le_refl z.years.length)
  have hm := reachC_mem h0 ht (Nat.le_refl z.years.length)
  have hs := classes_sorted r (reach r z.first [] z.years z.years.length)
  have hn : nextR r z = (⟨pr r ((reachC r z z.years.length).getD 0 0), pr r ((reachC r z z.years.length).getD ((reachC r z z.years.length).length - 1) 0)⟩, 0) := by
    unfold nextR; rw [if_neg (by simpa using h0)]; rfl
  have hb : ∀ c ∈ reachC r z z.years.length, 0 ≤ c ∧ c < r.classes := fun c h => ⟨(mem_classes.1 h).1, (mem_classes.1 h).2.1⟩
  change 0 < (reachC r z z.years.length).length at hpos
  change (reachC r z z.years.length).Pairwise (· < ·) at hs
  generalize reachC r z z.years.length = L at *
  generalize (spotT r z.first z.years t z.years.length).class_ = c at *
  have e1 : L[0]? = some L[0] := List.getElem?_eq_getElem (by omega)
  have e2 : L[L.length - 1]? = some (L[L.length - 1]'(by omega)) := List.getElem?_eq_getElem (by omega)
  obtain ⟨k, hk, hkc⟩ := List.getElem_of_mem hm
  have s1 : L[0] ≤ c := by
    rcases Nat.eq_zero_or_pos k with h | h
    · subst h; omega
    · have := List.pairwise_iff_getElem.1 hs 0 k (by omega) hk h; omega
  have s2 : c ≤ L[L.length - 1]'(by omega) := by
    rcases Nat.lt_or_ge k (L.length - 1) with h | h
    · have := List.pairwise_iff_getElem.1 hs k (L.length - 1) hk (by omega) h; omega
    · have : k = L.length - 1 := by omega
      subst this; omega
  have b1 := hb _ (List.mem_of_getElem? e1)
  have b2 := hb _ (List.mem_of_getElem? e2)
  have b3 := hb _ hm
  refine ⟨_, _, e1, e2, hpos, b1.1, b1.2, b2.1, b2.2, ?_, pr_mono h0 b1.1 s1 b3.2, pr_mono h0 b3.1 s2 b2.2⟩
  rw [hn]
  simp only [List.getD_eq_getElem?_getD, e1, e2, Option.getD_some]
end Go.Proofs.Ytelnonfenpjjcaa
