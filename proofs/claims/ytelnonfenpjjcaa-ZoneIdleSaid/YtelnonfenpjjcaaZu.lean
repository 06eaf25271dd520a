/- ZoneWorse: with greater losses of the last year the ends of Reach do not decrease; with greater premiums they do not increase. -/
import Derived.Test.YtelnonfenpjjcaaZt
set_option linter.unusedSimpArgs false
set_option linter.unusedVariables false
open Go Go.TV
namespace Go.Proofs.Ytelnonfenpjjcaa

/-! ### The ends of a sorted list -/
def loL (L : List Int) : Int := L.getD 0 0
def hiL (L : List Int) : Int := L.getD (L.length - 1) 0
theorem loL_mem {L : List Int} (h : L ≠ []) : loL L ∈ L := by
  cases L with
  | nil => exact absurd rfl h
  | cons a l => simp [loL]
theorem loL_le {L : List Int} (hs : L.Pairwise (· < ·)) {x : Int} (hx : x ∈ L) : loL L ≤ x := by
  cases L with
  | nil => simp at hx
  | cons a l => simpa [loL] using sorted_head hs hx
theorem hiL_mem {L : List Int} (h : L ≠ []) : hiL L ∈ L := by
  have : 0 < L.length := List.length_pos_iff.2 h
  have h1 : L[L.length - 1]? = some (L[L.length - 1]'(by omega)) := List.getElem?_eq_getElem (by omega)
  simp only [hiL, List.getD_eq_getElem?_getD, h1, Option.getD_some]
  exact List.getElem_mem _
theorem le_hiL {L : List Int} (hs : L.Pairwise (· < ·)) {x : Int} (hx : x ∈ L) : x ≤ hiL L := by
  obtain ⟨i, hi, rfl⟩ := List.mem_iff_getElem.1 hx
  have h1 : L[L.length - 1]? = some (L[L.length - 1]'(by omega)) := List.getElem?_eq_getElem (by omega)
  simp only [hiL, List.getD_eq_getElem?_getD, h1, Option.getD_some]
  rcases Nat.lt_or_ge i (L.length - 1) with h | h
  · have := List.pairwise_iff_getElem.1 hs i (L.length - 1) hi (by omega) h
    omega
  · have : i = L.length - 1 := by omega
    subst this; omega

/-- Spots that lie below others. -/
structure Dom (A B : List Spot) : Prop where
  up : ∀ a ∈ A, ∃ b ∈ B, a.class_ ≤ b.class_
  dn : ∀ b ∈ B, ∃ a ∈ A, a.class_ ≤ b.class_
theorem Dom.ends {r : Rule} {A B : List Spot} (h : Dom A B) (ha : ∀ x ∈ A, OkS r x) (hb : ∀ x ∈ B, OkS r x) (hA : classes r A ≠ []) (hB : classes r B ≠ []) :
    loL (classes r A) ≤ loL (classes r B) ∧ hiL (classes r A) ≤ hiL (classes r B) := by
  have mk : ∀ {X : List Spot}, (∀ x ∈ X, OkS r x) → ∀ x ∈ X, x.class_ ∈ classes r X := fun hX x hx => mem_classes.2 ⟨(hX x hx).a1, (hX x hx).a2, hasC_iff.2 ⟨x, hx, rfl⟩⟩
  constructor
  · obtain ⟨b, h1, h2⟩ := hasC_iff.1 (mem_classes.1 (loL_mem hB)).2.2
    obtain ⟨a, h3, h4⟩ := h.dn b h1
    have := loL_le (classes_sorted r A) (mk ha a h3)
    omega
  · obtain ⟨a, h1, h2⟩ := hasC_iff.1 (mem_classes.1 (hiL_mem hA)).2.2
    obtain ⟨b, h3, h4⟩ := h.up a h1
    have := le_hiL (classes_sorted r B) (mk hb b h3)
    omega

theorem reach_congr (r : Rule) (f : Int) (out : List Int) {ys ys' : List Year} : ∀ n, (∀ j, j < n → ys[j]? = ys'[j]?) → reach r f out ys n = reach r f out ys' n
  | 0, _ => rfl
  | n + 1, h => by
    simp only [reach]
    rw [h n (by omega), reach_congr r f out n fun j hj => h j (by omega)]

/-- The kinds in their order: those that count not, or the better one first. -/
def KLe (a b : Nat) : Prop := a = b ∨ (1 ≤ a ∧ a ≤ b)
theorem move_mono {r : Rule} {x : Spot} (hr : OkR r) (hx : OkS r x) {a b : Nat} (h : KLe a b) : (move r a x).class_ ≤ (move r b x).class_ := by
  obtain ⟨c1, c2, r1, r2⟩ := hr
  obtain ⟨a1, a2, b1, b2⟩ := hx
  rcases h with rfl | ⟨h1, h2⟩
  · exact Int.le_refl _
  · match a, b, h1, h2 with
    | 1, 1, _, _ => exact Int.le_refl _
    | 1, 2, _, _ => simp only [move]; split <;> omega
    | 1, b + 3, _, _ => simp only [move]; split <;> omega
    | 2, 2, _, _ => exact Int.le_refl _
    | 2, b + 3, _, _ => simp only [move]; omega
    | a + 3, b + 3, _, _ => exact Int.le_refl _
    | 0, _, h1, _ => omega
    | 1, 0, _, h2 => omega
    | 2, 0, _, h2 => omega
    | 2, 1, _, h2 => omega
    | a + 3, 0, _, h2 => omega
    | a + 3, 1, _, h2 => omega
    | a + 3, 2, _, h2 => omega
theorem mem_can {r : Rule} {y : Year} {k : Nat} : k ∈ can r y false ↔ ∃ l ∈ every y.l, ∃ p ∈ every y.p, kind r y l p = k := by
  have hs : seen r y false k = true ↔ ∃ l ∈ every y.l, ∃ p ∈ every y.p, kind r y l p = k := by
    unfold seen
    rw [if_neg (by simp)]
    simp
  simp only [can, List.mem_filter, hs]
  constructor
  · exact fun h => h.2
  · rintro ⟨l, h1, p, h2, rfl⟩
    refine ⟨?_, l, h1, p, h2, rfl⟩
    have := kind_le r y l p
    simp; omega
theorem mem_every {r : Rng} {n : Int} : n ∈ every r ↔ r.lo ≤ n ∧ n ≤ r.hi := by
  simp only [every, List.mem_map, List.mem_range]
  constructor
  · rintro ⟨i, h1, rfl⟩; omega
  · rintro ⟨h1, h2⟩; exact ⟨(n - r.lo).toNat, by omega, by omega⟩
/-- A year that is worse than another one: each kind of the one lies below one of the other. -/
structure Worse (r : Rule) (y y' : Year) : Prop where
  up : ∀ k ∈ can r y false, ∃ k' ∈ can r y' false, KLe k k'
  dn : ∀ k' ∈ can r y' false, ∃ k ∈ can r y false, KLe k k'
theorem steps_dom {r : Rule} {y y' : Year} {R : List Spot} (hr : OkR r) (hR : ∀ x ∈ R, OkS r x) (h : Worse r y y') : Dom (steps r y false R) (steps r y' false R) := by
  constructor
  · intro a ha
    simp only [steps, List.mem_flatMap, List.mem_map] at ha ⊢
    obtain ⟨x, hx, k, hk, rfl⟩ := ha
    obtain ⟨k', h1, h2⟩ := h.up k hk
    exact ⟨_, ⟨x, hx, k', h1, rfl⟩, move_mono hr (hR x hx) h2⟩
  · intro a ha
    simp only [steps, List.mem_flatMap, List.mem_map] at ha ⊢
    obtain ⟨x, hx, k, hk, rfl⟩ := ha
    obtain ⟨k', h1, h2⟩ := h.dn k hk
    exact ⟨_, ⟨x, hx, k', h1, rfl⟩, move_mono hr (hR x hx) h2⟩

theorem kind_loss {r : Rule} {y : Year} {l l' p : Int} (h : l ≤ l') (hgb : r.good ≤ r.bad) (hp : 0 ≤ p) : KLe (kind r y l p) (kind r y l' p) := by
  have hm : p * r.good ≤ p * r.bad := Int.mul_le_mul_of_nonneg_left hgb hp
  unfold kind KLe
  repeat' split
  all_goals omega
theorem kind_prem {r : Rule} {y : Year} {l p p' : Int} (h : p ≤ p') (hgb : r.good ≤ r.bad) (hg : 0 ≤ r.good) (hp : 0 ≤ p) : KLe (kind r y l p') (kind r y l p) := by
  have h1 : p * r.good ≤ p' * r.good := Int.mul_le_mul_of_nonneg_right h hg
  have h2 : p * r.bad ≤ p' * r.bad := Int.mul_le_mul_of_nonneg_right h (by omega)
  have h3 : p * r.good ≤ p * r.bad := Int.mul_le_mul_of_nonneg_left hgb hp
  have h4 : p' * r.good ≤ p' * r.bad := Int.mul_le_mul_of_nonneg_left hgb (by omega)
  unfold kind KLe
  repeat' split
  all_goals omega
def moreL (y : Year) (n : Int) : Year := ⟨⟨y.l.lo + n, y.l.hi + n⟩, y.p, y.parcels, y.exempt⟩
def moreP (y : Year) (n : Int) : Year := ⟨y.l, ⟨y.p.lo + n, y.p.hi + n⟩, y.parcels, y.exempt⟩
theorem worseL {r : Rule} {y : Year} {n : Int} (hn : 0 ≤ n) (hgb : r.good ≤ r.bad) (hp : 0 ≤ y.p.lo) : Worse r y (moreL y n) := by
  constructor
  · intro k hk
    obtain ⟨l, h1, p, h2, rfl⟩ := mem_can.1 hk
    rw [mem_every] at h1 h2
    exact ⟨_, mem_can.2 ⟨l + n, mem_every.2 (by simp [moreL]; omega), p, mem_every.2 h2, rfl⟩, kind_loss (y := y) (by omega) hgb (by omega)⟩
  · intro k hk
    obtain ⟨l, h1, p, h2, rfl⟩ := mem_can.1 hk
    rw [mem_every] at h1 h2
    simp only [moreL] at h1 h2
    exact ⟨_, mem_can.2 ⟨l - n, mem_every.2 (by omega), p, mem_every.2 h2, rfl⟩, kind_loss (y := y) (by omega) hgb (by omega)⟩
theorem worseP {r : Rule} {y : Year} {n : Int} (hn : 0 ≤ n) (hgb : r.good ≤ r.bad) (hg : 0 ≤ r.good) (hp : 0 ≤ y.p.lo) : Worse r (moreP y n) y := by
  constructor
  · intro k hk
    obtain ⟨l, h1, p, h2, rfl⟩ := mem_can.1 hk
    rw [mem_every] at h1 h2
    simp only [moreP] at h1 h2
    exact ⟨_, mem_can.2 ⟨l, mem_every.2 h1, p - n, mem_every.2 (by omega), rfl⟩, kind_prem (y := y) (by omega) hgb hg (by omega)⟩
  · intro k hk
    obtain ⟨l, h1, p, h2, rfl⟩ := mem_can.1 hk
    rw [mem_every] at h1 h2
    exact ⟨_, mem_can.2 ⟨l, mem_every.2 h1, p + n, mem_every.2 (by simp [moreP]; omega), rfl⟩, kind_prem (y := y) (by omega) hgb hg (by omega)⟩

/-- A zone with another last year. -/
def lastZ (z : Zone) (y : Year) : Zone := ⟨z.first, z.years.set (z.years.length - 1) y⟩
def endL (r : Rule) (z : Zone) : List Int := classes r (reach r z.first [] z.years z.years.length)
theorem fault_gb {r : Rule} {z : Zone} (h : fault r z = 0) : 0 ≤ r.good ∧ r.good ≤ r.bad := by
  obtain ⟨h1, _⟩ := fault_valid h
  simp only [Rule.valid, within, Bool.and_eq_true, decide_eq_true_eq] at h1
  omega
theorem lastZ_ends {r : Rule} {z : Zone} {y y' : Year} (h : fault r z = 0) (hl : z.years[z.years.length - 1]? = some y) (hx : fault r (lastZ z y') = 0) :
    (Worse r y y' → loL (endL r z) ≤ loL (endL r (lastZ z y')) ∧ hiL (endL r z) ≤ hiL (endL r (lastZ z y'))) ∧
    (Worse r y' y → loL (endL r (lastZ z y')) ≤ loL (endL r z) ∧ hiL (endL r (lastZ z y')) ≤ hiL (endL r z)) := by
  have hpos := (List.getElem?_eq_some_iff.1 hl).1
  obtain ⟨n, hn⟩ : ∃ n, z.years.length = n + 1 := ⟨z.years.length - 1, by omega⟩
  have e1 : reach r z.first [] z.years z.years.length = steps r y false (reach r z.first [] z.years n) := by
    rw [hn, reach_succ (y := y) (by rw [hn] at hl; simpa using hl)]
    simp
  have e2 : reach r (lastZ z y').first [] (lastZ z y').years (lastZ z y').years.length = steps r y' false (reach r z.first [] z.years n) := by
    have hlen : (lastZ z y').years.length = n + 1 := by simp [lastZ, hn]
    rw [hlen, reach_succ (y := y') (by simp [lastZ, hn])]
    simp only [List.contains_nil]
    rw [reach_congr r (lastZ z y').first [] (ys := (lastZ z y').years) (ys' := z.years) n fun j hj => by
      simp only [lastZ]; rw [List.getElem?_set_ne (by omega)]]
    rfl
  have hr := fault_okR h
  have hR := reach_ok hr (fault_first h).1 (fault_first h).2 [] z.years n
  have o1 := reach_ok hr (fault_first h).1 (fault_first h).2 [] z.years z.years.length
  have o2 := reach_ok hr (fault_first hx).1 (fault_first hx).2 [] (lastZ z y').years (lastZ z y').years.length
  have n1 : endL r z ≠ [] := List.length_pos_iff.1 (classes_ne h [] (Nat.le_refl _))
  have n2 : endL r (lastZ z y') ≠ [] := List.length_pos_iff.1 (classes_ne hx [] (Nat.le_refl _))
  unfold endL at n1 n2 ⊢
  rw [e1] at o1 n1 ⊢
  rw [e2] at o2 n2 ⊢
  exact ⟨fun hw => (steps_dom hr hR hw).ends o1 o2 n1 n2, fun hw => (steps_dom hr hR hw).ends o2 o1 n2 n1⟩
theorem endL_ne {r : Rule} {z : Zone} (h : fault r z = 0) : 0 < (endL r z).length ∧ (endL r z).length ≤ 6 := by
  refine ⟨classes_ne h [] (Nat.le_refl _), ?_⟩
  have := (fault_okR h).c2
  simp only [endL, classes, upC, List.length_map]
  exact Nat.le_trans (List.length_filter_le _ _) (by simp; omega)
theorem reachR_last {r : Rule} {z : Zone} (h : fault r z = 0) (hp : 0 < z.years.length) : reachR r z ((z.years.length - 1 : Nat) : Int) = (endL r z, 0) := by
  rw [reachR_good (fy_ok h (by omega))]
  rw [show z.years.length - 1 + 1 = z.years.length by omega]
  rfl

theorem tdiv_ex {a n x : Int} (h : x = a.tdiv n) (h1 : 0 ≤ a) (h2 : 0 < n) : ∃ k : Nat, x = k ∧ (k : Int) ≤ a := by
  rw [Int.tdiv_eq_ediv_of_nonneg h1] at h
  have := Int.ediv_nonneg h1 (Int.le_of_lt h2)
  have := Int.ediv_le_self n h1
  exact ⟨x.toNat, by omega, by omega⟩
end Go.Proofs.Ytelnonfenpjjcaa
