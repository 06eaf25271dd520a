/- ZonePrefix: what is returned of a year does not depend on the years after it. -/
import Derived.Test.YtelnonfenpjjcaaZo
set_option linter.unusedSimpArgs false
set_option linter.unusedVariables false
open Go Go.TV
namespace Go.Proofs.Ytelnonfenpjjcaa

theorem c29 (r : Rule) (z : Zone) : PF Try.prog 29 [encRule r, encZ z] (· = .int .i64 (fault r z)) := by
  refine PF.of (TF.ev fn_29 (Ev.at ?_))
  (repeat' (first | (refine Ev.go ?_; conv => whnf) | refine And.intro ?_ ?_ | exact True.intro | exact rfl | (intro rx hrx; rw [IntWalk.i64_in _ (by omega)] at hrx) | (intro hcx; exfalso; omega) | (intro hcx; exfalso; simp only [ints_len, encYs_len] at hcx; omega) | (intro ex hex; (first | obtain ⟨xx, hxx, rfl⟩ := ints_at hex | obtain ⟨xx, hxx, rfl⟩ := encYs_at hex | obtain ⟨xx, hxx, rfl⟩ := encYs_cut hex); clear hex; try simp only [Int.toNat_natCast] at hxx) | intro _))
  refine TSq.pureC (c60 r z) (by simp [cloL, clo, encR, encY, encRule, encZ, encS, ints_clo, encYs_clo]) rfl (And.intro rfl rfl) ?_
  (repeat' (first | (refine Ev.go ?_; conv => whnf) | refine And.intro ?_ ?_ | exact True.intro | exact rfl | (intro rx hrx; rw [IntWalk.i64_in _ (by omega)] at hrx) | (intro hcx; exfalso; omega) | (intro hcx; exfalso; simp only [ints_len, encYs_len] at hcx; omega) | (intro ex hex; (first | obtain ⟨xx, hxx, rfl⟩ := ints_at hex | obtain ⟨xx, hxx, rfl⟩ := encYs_at hex | obtain ⟨xx, hxx, rfl⟩ := encYs_cut hex); clear hex; try simp only [Int.toNat_natCast] at hxx) | intro _))
  try rfl

def thin (r : Rule) (z : Zone) : Bool := decide (r.price.length ≤ 9 ∧ z.years.length ≤ 9)
def ready (r : Rule) (z : Zone) : Bool := decide (fault r z = 0)
theorem fault_thin {r : Rule} {z : Zone} (h : fault r z = 0) : r.price.length ≤ 9 ∧ z.years.length ≤ 9 := by
  have h1 := fault_price h
  have h2 := (fault_okR h).c2
  have h3 := fault_len h
  omega
theorem c36 (r : Rule) (z : Zone) : PF Try.prog 36 [encRule r, encZ z] (· = .bool (ready r z)) := by
  refine PF.of (TF.ev fn_36 (Ev.at ?_))
  (repeat' (first | (refine Ev.go ?_; conv => whnf) | refine And.intro ?_ ?_ | exact True.intro | exact rfl | (intro rx hrx; rw [IntWalk.i64_in _ (by omega)] at hrx) | (intro hcx; exfalso; omega) | (intro hcx; exfalso; simp only [ints_len, encYs_len] at hcx; omega) | (intro ex hex; (first | obtain ⟨xx, hxx, rfl⟩ := ints_at hex | obtain ⟨xx, hxx, rfl⟩ := encYs_at hex | obtain ⟨xx, hxx, rfl⟩ := encYs_cut hex); clear hex; try simp only [Int.toNat_natCast] at hxx) | intro _))
  refine TSq.pureBC (c17 r z) (by simp [cloL, clo, encR, encY, encRule, encZ, encS, ints_clo, encYs_clo]) rfl (And.intro rfl rfl) ?_ ?_
  · intro h
    (repeat' (first | (refine Ev.go ?_; conv => whnf) | refine And.intro ?_ ?_ | exact True.intro | exact rfl | (intro rx hrx; rw [IntWalk.i64_in _ (by omega)] at hrx) | (intro hcx; exfalso; omega) | (intro hcx; exfalso; simp only [ints_len, encYs_len] at hcx; omega) | (intro ex hex; (first | obtain ⟨xx, hxx, rfl⟩ := ints_at hex | obtain ⟨xx, hxx, rfl⟩ := encYs_at hex | obtain ⟨xx, hxx, rfl⟩ := encYs_cut hex); clear hex; try simp only [Int.toNat_natCast] at hxx) | intro _))
    refine TSq.pureC (c29 r z) (by simp [cloL, clo, encR, encY, encRule, encZ, encS, ints_clo, encYs_clo]) rfl (And.intro rfl rfl) ?_
    (repeat' (first | (refine Ev.go ?_; conv => whnf) | refine And.intro ?_ ?_ | exact True.intro | exact rfl | (intro rx hrx; rw [IntWalk.i64_in _ (by omega)] at hrx) | (intro hcx; exfalso; omega) | (intro hcx; exfalso; simp only [ints_len, encYs_len] at hcx; omega) | (intro ex hex; (first | obtain ⟨xx, hxx, rfl⟩ := ints_at hex | obtain ⟨xx, hxx, rfl⟩ := encYs_at hex | obtain ⟨xx, hxx, rfl⟩ := encYs_cut hex); clear hex; try simp only [Int.toNat_natCast] at hxx) | intro _))
    all_goals (rw [SV.bool_iff]; simp [ready]; assumption)
  · intro h
    (repeat' (first | (refine Ev.go ?_; conv => whnf) | refine And.intro ?_ ?_ | exact True.intro | exact rfl | (intro rx hrx; rw [IntWalk.i64_in _ (by omega)] at hrx) | (intro hcx; exfalso; omega) | (intro hcx; exfalso; simp only [ints_len, encYs_len] at hcx; omega) | (intro ex hex; (first | obtain ⟨xx, hxx, rfl⟩ := ints_at hex | obtain ⟨xx, hxx, rfl⟩ := encYs_at hex | obtain ⟨xx, hxx, rfl⟩ := encYs_cut hex); clear hex; try simp only [Int.toNat_natCast] at hxx) | intro _))
    rw [SV.bool_iff]; simp only [ready, Bool.false_eq_true, false_iff, decide_eq_true_eq]
    intro h0
    have := fault_thin h0
    simp at h
    omega

def cutZ (z : Zone) (n : Nat) : Zone := ⟨z.first, z.years.take n⟩
theorem reach_take (r : Rule) (f : Int) (out : List Int) (ys : List Year) (m : Nat) : ∀ n, n ≤ m → reach r f out (ys.take m) n = reach r f out ys n
  | 0, _ => rfl
  | n + 1, h => by
    simp only [reach]
    rw [List.getElem?_take, if_pos (by omega), reach_take r f out ys m n (by omega)]
theorem movesAt_take (r : Rule) (f : Int) (out : List Int) (ys : List Year) (m : Nat) (b : Bool) : ∀ n, n ≤ m → movesAt r f out (ys.take m) n b = movesAt r f out ys n b
  | 0, _ => rfl
  | n + 1, h => by
    simp only [movesAt]
    rw [List.getElem?_take, if_pos (by omega), reach_take r f out ys m n (by omega)]
theorem fault_cut {r : Rule} {z : Zone} (h : fault r z = 0) (n : Nat) : fault r (cutZ z n) = 0 := by
  obtain ⟨h1, h2, h3, h4⟩ := fault_valid h
  have h5 := fault_len h
  refine fault_0 ?_ h1 h2 ?_
  · simp only [cutZ, List.length_take]; omega
  · rw [List.all_eq_true]; intro y hy; exact h3 y (List.mem_of_mem_take hy)
theorem fy_ok {r : Rule} {z : Zone} {k : Nat} (h : fault r z = 0) (hk : k < z.years.length) : fy r z (k : Int) = 0 := by
  rw [fy, if_neg (by simpa using h), if_pos]
  simp only [within, decide_eq_true_eq]; omega
theorem reachR_good {r : Rule} {z : Zone} {k : Nat} (h : fy r z k = 0) : reachR r z k = (classes r (reach r z.first [] z.years (k + 1)), 0) := by
  unfold reachR; rw [if_neg (by simpa using h)]; simp
theorem movesR_good {r : Rule} {z : Zone} {k : Nat} (h : fy r z k = 0) : movesR r z k = (if movesAt r z.first [] z.years (k + 1) true = true then (if movesAt r z.first [] z.years (k + 1) false = true then 3 else 1) else 2, 0) := by
  unfold movesR; rw [if_neg (by simpa using h)]; simp
theorem reachR_cut {r : Rule} {z : Zone} {k : Nat} (h : fault r z = 0) (hk : k < z.years.length) : reachR r (cutZ z (k + 1)) k = reachR r z k := by
  have h1 := fy_ok h hk
  have h2 : fy r (cutZ z (k + 1)) k = 0 := fy_ok (fault_cut h _) (by simp [cutZ]; omega)
  rw [reachR_good h1, reachR_good h2]
  simp only [cutZ, reach_take _ _ _ _ _ _ (Nat.le_refl _)]
theorem movesR_cut {r : Rule} {z : Zone} {k : Nat} (h : fault r z = 0) (hk : k < z.years.length) : movesR r (cutZ z (k + 1)) k = movesR r z k := by
  have h1 := fy_ok h hk
  have h2 : fy r (cutZ z (k + 1)) k = 0 := fy_ok (fault_cut h _) (by simp [cutZ]; omega)
  rw [movesR_good h1, movesR_good h2]
  simp only [cutZ, movesAt_take _ _ _ _ _ _ _ (Nat.le_refl _)]
theorem reachR_ok {r : Rule} {z : Zone} {k : Nat} (h : fault r z = 0) (hk : k < z.years.length) : (reachR r z k).2 = 0 ∧ (movesR r z k).2 = 0 := by
  have h1 := fy_ok h hk
  simp [reachR, movesR, h1]
theorem encYs_take (l : List Year) (n : Nat) : List.take n (List.drop 0 (encYs l)) = encYs (l.take n) := by simp [encYs, List.map_take]

theorem tmod_ex {a n x : Int} (h : x = a.tmod n) (h1 : 0 ≤ a) (h2 : 0 < n) : ∃ k : Nat, x = k ∧ (k : Int) < n := by
  rw [Int.tmod_eq_emod_of_nonneg h1] at h
  exact ⟨x.toNat, by have := Int.emod_nonneg a (Int.ne_of_gt h2); omega, by have := Int.emod_lt_of_pos a h2; have := Int.emod_nonneg a (Int.ne_of_gt h2); omega⟩

theorem reachR_ex {r : Rule} {z : Zone} {k : Nat} (h : fault r z = 0) (hk : k < z.years.length) : ∃ L : List Int, reachR r z k = (L, 0) ∧ L.length ≤ 6 := by
  refine ⟨_, reachR_good (fy_ok h hk), ?_⟩
  have := (fault_okR h).c2
  simp only [classes, upC, List.length_map]
  exact Nat.le_trans (List.length_filter_le _ _) (by simp; omega)
theorem movesR_ex {r : Rule} {z : Zone} {k : Nat} (h : fault r z = 0) (hk : k < z.years.length) : ∃ v : Int, movesR r z k = (v, 0) := ⟨_, movesR_good (fy_ok h hk)⟩
end Go.Proofs.Ytelnonfenpjjcaa
