/- The document's classes, of all lists of kinds, are those of the spots. -/
import Derived.Test.YtelnonfenpjjcaaZx
import Derived.Test.YtelnonfenpjjcaaZv
set_option linter.unusedSimpArgs false
set_option linter.unusedVariables false
open Go Go.TV
namespace Go.Proofs.Ytelnonfenpjjcaa

/-- How long a zone has rested, by the kinds before, the last one first. -/
def sinceL (rest : Int) : List Int → Int
  | [] => rest
  | k :: ks => if k = 2 then 0 else if 0 < k then min (sinceL rest ks + 1) rest else sinceL rest ks
theorem sinceL_ok {rest : Int} (h : 0 ≤ rest) : ∀ ks, 0 ≤ sinceL rest ks ∧ sinceL rest ks ≤ rest
  | [] => ⟨h, Int.le_refl _⟩
  | k :: ks => by
    have := sinceL_ok h ks
    simp only [sinceL]
    repeat' split
    all_goals omega
theorem restedR_iff {rest : Int} (h : 0 ≤ rest) : ∀ (ks : List Int) (m : Int), 0 ≤ m → (restedR rest ks m = true ↔ rest ≤ m + sinceL rest ks)
  | [], m, hm => by simp [restedR, sinceL]; omega
  | k :: ks, m, hm => by
    have hs := sinceL_ok h ks
    have i1 := restedR_iff h ks (m + 1) (by omega)
    have i2 := restedR_iff h ks m hm
    simp only [restedR, sinceL]
    by_cases h1 : m < rest
    · rw [if_pos h1]
      by_cases h2 : k = 2
      · rw [if_pos h2, if_pos h2]; simp; omega
      · rw [if_neg h2, if_neg h2]
        by_cases h3 : 0 < k
        · rw [if_pos h3, if_pos h3, i1]; omega
        · rw [if_neg h3, if_neg h3, i2]
    · rw [if_neg h1]
      repeat' split
      all_goals simp; omega
/-- The spot after some years, by the kinds of all years. -/
def spotC (r : Rule) (first : Int) (l : List Int) (n : Nat) : Spot := ⟨nowC r first l n, sinceL r.rest (l.take n).reverse⟩
/-- The document's kinds, as the program's. -/
def mk (k : Int) : Nat := if k = 0 then 0 else if k = 1 then 1 else if k = 2 then 3 else 2
theorem spotC_succ {r : Rule} {first : Int} {l : List Int} {n : Nat} {k : Int} (hr : 0 ≤ r.rest) (h : l[n]? = some k) (hk : k = 0 ∨ k = 1 ∨ k = 2 ∨ k = 3) : spotC r first l (n + 1) = move r (mk k) (spotC r first l n) := by
  have hs := sinceL_ok hr (l.take n).reverse
  have hrest : rested r (l.take n) = true ↔ r.rest ≤ sinceL r.rest (l.take n).reverse := by
    unfold rested
    rw [restedR_iff hr _ 0 (Int.le_refl _)]; omega
  simp only [spotC, nowC_succ h, rev_take h, stepC, hrest, sinceL]
  rcases hk with rfl | rfl | rfl | rfl
  · rw [show mk 0 = 0 from rfl]; simp [move]
  · rw [show mk 1 = 1 from rfl]; simp [move]
  · rw [show mk 2 = 3 from rfl]; simp [move]
  · rw [show mk 3 = 2 from rfl]; simp [move]
theorem nowC_congr {r : Rule} {first : Int} {l m : List Int} : ∀ n, (∀ i, i < n → l[i]? = m[i]?) → n ≤ l.length → n ≤ m.length → nowC r first l n = nowC r first m n
  | 0, _, _, _ => rfl
  | n + 1, h, h1, h2 => by
    have e1 : l[n]? = some l[n] := List.getElem?_eq_getElem (by omega)
    have e2 : m[n]? = some l[n] := by rw [← h n (by omega)]; exact e1
    have e3 : l.take n = m.take n := by
      apply List.ext_getElem?
      intro i
      rw [List.getElem?_take, List.getElem?_take]
      split
      · exact h i (by omega)
      · rfl
    rw [nowC_succ e1, nowC_succ e2, nowC_congr n (fun i hi => h i (by omega)) (by omega) (by omega), e3]
theorem spotC_congr {r : Rule} {first : Int} {l m : List Int} {n : Nat} (h : l.take n = m.take n) (h1 : n ≤ l.length) (h2 : n ≤ m.length) : spotC r first l n = spotC r first m n := by
  unfold spotC
  rw [h, nowC_congr n (fun i hi => ?_) h1 h2]
  have := congrArg (fun x => x[i]?) h
  simpa [List.getElem?_take, hi] using this

theorem rkind_kind {r : Rule} {y : Year} {l p : Int} (hg : r.good ≤ r.bad) (hp : 0 ≤ p) : mk (rkind r y l p) = kind r y l p := by
  have := Int.mul_le_mul_of_nonneg_left hg hp
  unfold rkind kind
  split
  · rfl
  · split
    · rfl
    · split
      · rfl
      · rfl
theorem kind_zero (r : Rule) (y : Year) : kind r y 0 0 ≠ 0 ↔ ¬ (y.exempt = true ∨ y.parcels < r.fewest) := by
  unfold kind
  split
  · rename_i h; simp [h]
  · rename_i h
    simp only [h, not_false_eq_true, iff_true]
    repeat' split
    all_goals simp
theorem rseen_zero {r : Rule} {y : Year} (h : OkY r y) : rseen r y 0 = false ↔ ¬ (y.exempt = true ∨ y.parcels < r.fewest) := by
  constructor
  · intro hs hc
    obtain ⟨l, hl⟩ := every_ne h.l2
    obtain ⟨p, hp⟩ := every_ne h.p2
    have : rseen r y 0 = true := List.any_eq_true.2 ⟨l, hl, List.any_eq_true.2 ⟨p, hp, by simp [rkind, hc]⟩⟩
    rw [hs] at this; cases this
  · intro hc
    cases hs : rseen r y 0 with
    | false => rfl
    | true =>
      obtain ⟨l, _, h2⟩ := List.any_eq_true.1 hs
      obtain ⟨p, _, h4⟩ := List.any_eq_true.1 h2
      simp only [beq_iff_eq] at h4
      unfold rkind at h4
      rw [if_neg hc] at h4
      split at h4
      · omega
      · split at h4 <;> omega
/-- What a year can be, in the document's words and in the program's. -/
theorem rcan_can {r : Rule} {y : Year} (h : OkY r y) (hg : r.good ≤ r.bad) (w : Bool) {k : Int} (hk : k = 0 ∨ k = 1 ∨ k = 2 ∨ k = 3) : rcan r y w k = true ↔ mk k ∈ can r y w := by
  have hm4 : mk k ∈ [0, 1, 2, 3] := by rcases hk with rfl | rfl | rfl | rfl <;> decide
  have hcan : mk k ∈ can r y w ↔ seen r y w (mk k) = true := by
    simp only [can, List.mem_filter]
    exact ⟨fun h => h.2, fun h => ⟨hm4, h⟩⟩
  rw [hcan]
  unfold rcan seen
  have he : (w = true ∧ rseen r y 0 = false) ↔ (w = true ∧ kind r y 0 0 ≠ 0) := by rw [rseen_zero h, kind_zero]
  by_cases hc : w = true ∧ kind r y 0 0 ≠ 0
  · rw [if_pos hc, if_pos (he.2 hc)]
    rcases hk with rfl | rfl | rfl | rfl <;> decide
  · rw [if_neg hc, if_neg (fun h' => hc (he.1 h'))]
    have hinj : ∀ k' : Int, (k' = 0 ∨ k' = 1 ∨ k' = 2 ∨ k' = 3) → (mk k' = mk k ↔ k' = k) := by
      intro k' hk'
      rcases hk with rfl | rfl | rfl | rfl <;> rcases hk' with rfl | rfl | rfl | rfl <;> decide
    unfold rseen
    simp only [List.any_eq_true, beq_iff_eq]
    constructor
    · rintro ⟨l, h1, p, h2, h3⟩
      refine ⟨l, h1, p, h2, ?_⟩
      have hp := (mem_every.1 h2).1
      rw [← rkind_kind hg (by have := h.p1; omega), h3]
    · rintro ⟨l, h1, p, h2, h3⟩
      refine ⟨l, h1, p, h2, ?_⟩
      have hp := (mem_every.1 h2).1
      rw [← rkind_kind hg (by have := h.p1; omega)] at h3
      exact (hinj _ (rkind_lt r y l p)).1 h3
theorem mem_ksN {f : Int → Bool} {k : Int} : k ∈ ksN f 4 ↔ (k = 0 ∨ k = 1 ∨ k = 2 ∨ k = 3) ∧ f k = true := by
  simp only [ksN, List.mem_map, List.mem_filter, List.mem_range]
  constructor
  · rintro ⟨n, ⟨h1, h2⟩, rfl⟩; exact ⟨by omega, h2⟩
  · rintro ⟨h1, h2⟩
    exact ⟨k.toNat, ⟨by omega, by rw [Int.toNat_of_nonneg (by omega)]; exact h2⟩, by omega⟩
theorem mk_surj {r : Rule} {y : Year} {w : Bool} {k : Nat} (h : k ∈ can r y w) : ∃ k' : Int, (k' = 0 ∨ k' = 1 ∨ k' = 2 ∨ k' = 3) ∧ mk k' = k := by
  simp only [can, List.mem_filter] at h
  have h := h.1
  simp at h
  rcases h with rfl | rfl | rfl | rfl
  · exact ⟨0, by simp, rfl⟩
  · exact ⟨1, by simp, rfl⟩
  · exact ⟨3, by simp, rfl⟩
  · exact ⟨2, by simp, rfl⟩

/-- **The spots that can be are those of the lists.** -/
theorem reach_lists {r : Rule} {first : Int} {out : List Int} {o : Nat} {ys : List Year} (hr : 0 ≤ r.rest) (hg : r.good ≤ r.bad) (hy : ∀ y ∈ ys, OkY r y) (ho : ∀ i : Nat, i < ys.length → out.contains (i : Int) = bitN o i) :
    ∀ n, n ≤ ys.length → ∀ x, x ∈ reach r first out ys n ↔ ∃ l ∈ lists r ys o n, x = spotC r first l n
  | 0, _, x => by simp [reach, lists, spotC, nowC, sinceL]
  | n + 1, hn, x => by
    have hyn : ys[n]? = some ys[n] := List.getElem?_eq_getElem (by omega)
    have hok := hy _ (List.getElem_mem (show n < ys.length by omega))
    have ih := reach_lists (first := first) hr hg hy ho n (by omega)
    rw [reach_succ hyn, lists_succ hyn, ho n (by omega)]
    have hstep : ∀ (l : List Int) (k : Int), l.length = n → (k = 0 ∨ k = 1 ∨ k = 2 ∨ k = 3) → spotC r first (l ++ [k]) (n + 1) = move r (mk k) (spotC r first l n) := by
      intro l k hl hk
      have h1 : (l ++ [k])[n]? = some k := by rw [← hl]; simp
      rw [spotC_succ hr h1 hk, spotC_congr (l := l ++ [k]) (m := l) (n := n) (by rw [← hl]; simp) (by simp; omega) (by omega)]
    simp only [steps, List.mem_flatMap, List.mem_map]
    constructor
    · rintro ⟨x0, h1, k, h2, rfl⟩
      obtain ⟨l, h3, rfl⟩ := (ih x0).1 h1
      obtain ⟨k', h4, rfl⟩ := mk_surj h2
      exact ⟨l ++ [k'], ⟨l, h3, k', mem_ksN.2 ⟨h4, (rcan_can hok hg _ h4).2 h2⟩, rfl⟩, (hstep l k' (lists_each r ys o n l h3) h4).symm⟩
    · rintro ⟨l', ⟨l, h3, k', h4, rfl⟩, rfl⟩
      obtain ⟨h5, h6⟩ := mem_ksN.1 h4
      exact ⟨_, (ih _).2 ⟨l, h3, rfl⟩, mk k', (rcan_can hok hg _ h5).1 h6, (hstep l k' (lists_each r ys o n l h3) h5).symm⟩
/-- The lists' beginnings are the shorter lists. -/
theorem lists_take {r : Rule} {o : Nat} {ys : List Year} (hy : ∀ y ∈ ys, OkY r y) {n : Nat} : ∀ d, n + d ≤ ys.length → ∀ u, u ∈ lists r ys o n ↔ ∃ l ∈ lists r ys o (n + d), l.take n = u
  | 0, _, u => by
    constructor
    · intro h; exact ⟨u, h, List.take_of_length_le (Nat.le_of_eq (lists_each r ys o n u h))⟩
    · rintro ⟨l, h, rfl⟩; rw [List.take_of_length_le (Nat.le_of_eq (lists_each r ys o n l h))]; exact h
  | d + 1, hn, u => by
    have hyn : ys[n + d]? = some ys[n + d] := List.getElem?_eq_getElem (by omega)
    rw [lists_take hy d (by omega) u, show n + (d + 1) = (n + d) + 1 by omega, lists_succ hyn]
    constructor
    · rintro ⟨l, h1, rfl⟩
      obtain ⟨k, hk⟩ := List.exists_mem_of_ne_nil _ (rcan_ne (hy _ (List.getElem_mem (show n + d < ys.length by omega))) (bitN o (n + d)))
      have := lists_each r ys o _ l h1
      exact ⟨l ++ [k], List.mem_flatMap.2 ⟨l, h1, List.mem_map.2 ⟨k, hk, rfl⟩⟩, by rw [List.take_append_of_le_length (by omega)]⟩
    · rintro ⟨l', h1, rfl⟩
      obtain ⟨l, h2, h3⟩ := List.mem_flatMap.1 h1
      obtain ⟨k, h4, rfl⟩ := List.mem_map.1 h3
      have := lists_each r ys o _ l h2
      exact ⟨l, h2, by rw [List.take_append_of_le_length (by omega)]⟩
theorem reach_full {r : Rule} {z : Zone} {out : List Int} {o : Nat} (h0 : fault r z = 0) (ho : ∀ i : Nat, i < z.years.length → out.contains (i : Int) = bitN o i) {n : Nat} (hn : n ≤ z.years.length) (x : Spot) :
    x ∈ reach r z.first out z.years n ↔ ∃ l ∈ lists r z.years o z.years.length, x = spotC r z.first l n := by
  rw [reach_lists (fault_okR h0).r1 (fault_gb h0).2 (fault_okY h0) ho n hn x]
  obtain ⟨d, hd⟩ : ∃ d, z.years.length = n + d := ⟨z.years.length - n, by omega⟩
  have ht := lists_take (r := r) (o := o) (fault_okY h0) (n := n) d (by omega)
  constructor
  · rintro ⟨u, h1, rfl⟩
    obtain ⟨l, h2, h3⟩ := (ht u).1 h1
    have e1 := lists_each r z.years o _ l h2
    have e2 := lists_each r z.years o _ u h1
    refine ⟨l, by rw [hd]; exact h2, ?_⟩
    exact spotC_congr (by rw [h3, List.take_of_length_le (by omega)]) (by omega) (by omega)
  · rintro ⟨l, h2, rfl⟩
    have e1 := lists_each r z.years o _ l h2
    have h3 := (ht (l.take n)).2 ⟨l, by rw [← hd]; exact h2, rfl⟩
    exact ⟨_, h3, spotC_congr (by rw [List.take_take, Nat.min_self]) (by omega) (by rw [List.length_take]; omega)⟩
theorem sorted_ext : ∀ {L M : List Int}, L.Pairwise (· < ·) → M.Pairwise (· < ·) → (∀ x, x ∈ L ↔ x ∈ M) → L = M
  | [], [], _, _, _ => rfl
  | [], b :: M, _, _, h => by have := (h b).2 (by simp); simp at this
  | a :: L, [], _, _, h => by have := (h a).1 (by simp); simp at this
  | a :: L, b :: M, hL, hM, h => by
    have h1 := sorted_head hL ((h b).2 (by simp))
    have h2 := sorted_head hM ((h a).1 (by simp))
    have e : a = b := by omega
    subst e
    have hL' := List.pairwise_cons.1 hL
    have hM' := List.pairwise_cons.1 hM
    rw [sorted_ext hL'.2 hM'.2 fun x => ?_]
    constructor
    · intro hx
      rcases List.mem_cons.1 ((h x).1 (by simp [hx])) with rfl | h3
      · have := hL'.1 x hx; omega
      · exact h3
    · intro hx
      rcases List.mem_cons.1 ((h x).2 (by simp [hx])) with rfl | h3
      · have := hM'.1 x hx; omega
      · exact h3

/-- The document's Reach. -/
def refR (r : Rule) (z : Zone) (n : Nat) (o : Nat) : List Int := ((List.range 6).filter fun (c : Nat) => (lists r z.years o z.years.length).any fun l => nowC r z.first l n == (c : Int)).map fun (c : Nat) => (c : Int)
theorem refR_eq {r : Rule} {z : Zone} {out : List Int} {o : Nat} (h0 : fault r z = 0) (ho : ∀ i : Nat, i < z.years.length → out.contains (i : Int) = bitN o i) {n : Nat} (hn : n ≤ z.years.length) : refR r z n o = classes r (reach r z.first out z.years n) := by
  refine sorted_ext (cast_sorted (filter_range_sorted _ _)) (classes_sorted _ _) fun c => ?_
  have hc6 := (fault_okR h0).c2
  rw [mem_classes, hasC_iff]
  simp only [refR, List.mem_map, List.mem_filter, List.mem_range, List.any_eq_true, beq_iff_eq]
  constructor
  · rintro ⟨m, ⟨_, l, h1, h2⟩, rfl⟩
    have hx := (reach_full h0 ho hn _).2 ⟨l, h1, rfl⟩
    have := reach_ok (fault_okR h0) (fault_first h0).1 (fault_first h0).2 out z.years n _ hx
    have e : (spotC r z.first l n).class_ = (m : Int) := h2
    exact ⟨by omega, by have := this.a2; omega, _, hx, e⟩
  · rintro ⟨h1, h2, x, h3, rfl⟩
    obtain ⟨l, h4, rfl⟩ := (reach_full h0 ho hn x).1 h3
    exact ⟨(spotC r z.first l n).class_.toNat, ⟨by omega, l, h4, by rw [Int.toNat_of_nonneg h1]; rfl⟩, Int.toNat_of_nonneg h1⟩

theorem step_to {r : Rule} {z : Zone} {out : List Int} {o : Nat} (h0 : fault r z = 0) (ho : ∀ i : Nat, i < z.years.length → out.contains (i : Int) = bitN o i) {k : Nat} {y : Year} (hk : z.years[k]? = some y) {l : List Int} (hl : l ∈ lists r z.years o z.years.length) :
    ∃ kk ∈ can r y (out.contains (k : Int)), spotC r z.first l (k + 1) = move r kk (spotC r z.first l k) := by
  have hlt := (List.getElem?_eq_some_iff.1 hk).1
  have hll := lists_each r z.years o _ l hl
  obtain ⟨d, hd⟩ : ∃ d, z.years.length = (k + 1) + d := ⟨z.years.length - (k + 1), by omega⟩
  have h1 := (lists_take (r := r) (o := o) (fault_okY h0) (n := k + 1) d (by omega) (l.take (k + 1))).2 ⟨l, by rw [← hd]; exact hl, rfl⟩
  rw [lists_succ hk] at h1
  obtain ⟨u, h2, h3⟩ := List.mem_flatMap.1 h1
  obtain ⟨k', h4, h5⟩ := List.mem_map.1 h3
  have hu := lists_each r z.years o _ u h2
  obtain ⟨h6, h7⟩ := mem_ksN.1 h4
  have e1 : l[k]? = some k' := by
    have := congrArg (fun x => x[k]?) h5
    simp only [List.getElem?_take] at this
    rw [if_pos (by omega)] at this
    rw [← this, ← hu]; simp
  have hok := fault_okY h0 y (List.mem_of_getElem? hk)
  exact ⟨mk k', by rw [ho k hlt]; exact (rcan_can hok (fault_gb h0).2 _ h6).1 h7, spotC_succ (fault_okR h0).r1 e1 h6⟩
theorem step_of {r : Rule} {z : Zone} {out : List Int} {o : Nat} (h0 : fault r z = 0) (ho : ∀ i : Nat, i < z.years.length → out.contains (i : Int) = bitN o i) {k : Nat} {y : Year} (hk : z.years[k]? = some y) {x : Spot} (hx : x ∈ reach r z.first out z.years k) {kk : Nat} (hkk : kk ∈ can r y (out.contains (k : Int))) :
    ∃ l ∈ lists r z.years o z.years.length, spotC r z.first l k = x ∧ spotC r z.first l (k + 1) = move r kk x := by
  have hlt := (List.getElem?_eq_some_iff.1 hk).1
  obtain ⟨u, h1, rfl⟩ := (reach_lists (fault_okR h0).r1 (fault_gb h0).2 (fault_okY h0) ho k (by omega) x).1 hx
  obtain ⟨k', h2, rfl⟩ := mk_surj hkk
  have hok := fault_okY h0 y (List.mem_of_getElem? hk)
  rw [ho k hlt] at hkk
  have hu := lists_each r z.years o _ u h1
  have h3 : u ++ [k'] ∈ lists r z.years o (k + 1) := by
    rw [lists_succ hk]
    exact List.mem_flatMap.2 ⟨u, h1, List.mem_map.2 ⟨k', mem_ksN.2 ⟨h2, (rcan_can hok (fault_gb h0).2 _ h2).2 hkk⟩, rfl⟩⟩
  obtain ⟨d, hd⟩ : ∃ d, z.years.length = (k + 1) + d := ⟨z.years.length - (k + 1), by omega⟩
  obtain ⟨l, h4, h5⟩ := (lists_take (r := r) (o := o) (fault_okY h0) (n := k + 1) d (by omega) _).1 h3
  rw [← hd] at h4
  have hll := lists_each r z.years o _ l h4
  have e0 : l.take k = u := by
    have := congrArg (List.take k) h5
    rw [List.take_take, Nat.min_eq_left (by omega), List.take_append_of_le_length (by omega), List.take_of_length_le (l := u) (by omega)] at this
    exact this
  have e1 : l[k]? = some k' := by
    have := congrArg (fun x => x[k]?) h5
    simp only [List.getElem?_take] at this
    rw [if_pos (by omega)] at this
    rw [this, ← hu]; simp
  have e2 : spotC r z.first l k = spotC r z.first u k := spotC_congr (by rw [e0, List.take_of_length_le (by omega)]) (by omega) (by omega)
  exact ⟨l, h4, e2, by rw [spotC_succ (fault_okR h0).r1 e1 h2, e2]⟩

/-- Whether a year moves the zone, by the kinds of all years. -/
def mvL (r : Rule) (first : Int) (k : Nat) (l : List Int) : Bool := decide (nowC r first l (k + 1) ≠ nowC r first l k)
/-- The document's Moves. -/
def refM (r : Rule) (z : Zone) (k : Nat) : Int :=
  if ((lists r z.years 0 z.years.length).filter (mvL r z.first k)).length = (lists r z.years 0 z.years.length).length then 1
  else if ((lists r z.years 0 z.years.length).filter (mvL r z.first k)).length = 0 then 2 else 3
theorem bit_zero (i : Nat) : ([] : List Int).contains (i : Int) = bitN 0 i := by simp [bitN]
theorem movesAt_iff {r : Rule} {z : Zone} (h0 : fault r z = 0) {k : Nat} (hk : k < z.years.length) (b : Bool) : movesAt r z.first [] z.years (k + 1) b = true ↔ ∃ l ∈ lists r z.years 0 z.years.length, mvL r z.first k l = b := by
  have hy : z.years[k]? = some z.years[k] := List.getElem?_eq_getElem hk
  have ho : ∀ i : Nat, i < z.years.length → ([] : List Int).contains (i : Int) = bitN 0 i := fun i _ => bit_zero i
  rw [movesAt_succ hy]
  simp only [moves, List.any_eq_true, beq_iff_eq]
  constructor
  · rintro ⟨x, h1, kk, h2, h3⟩
    obtain ⟨l, h4, h5, h6⟩ := step_of h0 ho hy h1 h2
    refine ⟨l, h4, ?_⟩
    rw [← h3, ← h6, ← h5]; rfl
  · rintro ⟨l, h1, h2⟩
    obtain ⟨kk, h3, h4⟩ := step_to h0 ho hy h1
    refine ⟨_, (reach_full h0 ho (by omega) _).2 ⟨l, h1, rfl⟩, kk, h3, ?_⟩
    rw [← h4, ← h2]; rfl
theorem filter_all {α : Type} {p : α → Bool} {L : List α} : (L.filter p).length = L.length ↔ ∀ x ∈ L, p x = true := by
  rw [List.length_filter_eq_length_iff]
theorem refM_eq {r : Rule} {z : Zone} (h0 : fault r z = 0) {k : Nat} (hk : k < z.years.length) : movesR r z k = (refM r z k, 0) := by
  have ht := movesAt_iff h0 hk true
  have hf := movesAt_iff h0 hk false
  have hne := lists_ne (o := 0) (fault_okY h0) z.years.length (Nat.le_refl _)
  rw [movesR_good (fy_ok h0 hk)]
  unfold refM
  generalize lists r z.years 0 z.years.length = L at *
  by_cases h1 : ∀ l ∈ L, mvL r z.first k l = true
  · rw [if_pos (filter_all.2 h1)]
    obtain ⟨l, hl⟩ := List.exists_mem_of_ne_nil _ hne
    rw [if_pos (ht.2 ⟨l, hl, h1 l hl⟩), if_neg]
    rw [hf]
    rintro ⟨l, h2, h3⟩
    rw [h1 l h2] at h3; cases h3
  · rw [if_neg (fun h => h1 (filter_all.1 h))]
    have h2 : ∃ l ∈ L, mvL r z.first k l = false := by
      apply Classical.byContradiction
      intro hc
      exact h1 fun l hl => by
        cases h : mvL r z.first k l with
        | true => rfl
        | false => exact absurd ⟨l, hl, h⟩ hc
    by_cases h3 : ∃ l ∈ L, mvL r z.first k l = true
    · rw [if_pos (ht.2 h3), if_pos (hf.2 h2), if_neg]
      obtain ⟨l, h4, h5⟩ := h3
      intro hc
      have := List.eq_nil_of_length_eq_zero hc
      have hm : l ∈ L.filter (mvL r z.first k) := List.mem_filter.2 ⟨h4, h5⟩
      rw [this] at hm; simp at hm
    · rw [if_neg (fun h => h3 (ht.1 h)), if_pos]
      rw [List.length_eq_zero_iff, List.filter_eq_nil_iff]
      intro l hl hm
      exact h3 ⟨l, hl, hm⟩
end Go.Proofs.Ytelnonfenpjjcaa
