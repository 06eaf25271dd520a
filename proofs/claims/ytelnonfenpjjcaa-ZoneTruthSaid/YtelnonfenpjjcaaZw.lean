/- ZoneWider: with wider ranges no class stops being one of Reach, and no more years must be false. -/
import Derived.Test.YtelnonfenpjjcaaZv
set_option linter.unusedSimpArgs false
set_option linter.unusedVariables false
open Go Go.TV
namespace Go.Proofs.Ytelnonfenpjjcaa

/-- A year that can be all that another one can be. -/
def Sub (r : Rule) (y y' : Year) : Prop := ∀ (w : Bool) (k : Nat), k ∈ can r y w → k ∈ can r y' w
def wideY (y : Year) (a b c d : Int) : Year := ⟨⟨max 0 (y.l.lo - a), min 10000 (y.l.hi + b)⟩, ⟨max 0 (y.p.lo - c), min 10000 (y.p.hi + d)⟩, y.parcels, y.exempt⟩
theorem sub_wide {r : Rule} {y : Year} {a b c d : Int} (h : OkY r y) (ha : 0 ≤ a) (hb : 0 ≤ b) (hc : 0 ≤ c) (hd : 0 ≤ d) : Sub r y (wideY y a b c d) := by
  intro w k hk
  simp only [can, List.mem_filter] at hk ⊢
  refine ⟨hk.1, ?_⟩
  have h2 := hk.2
  unfold seen at h2 ⊢
  have e : kind r (wideY y a b c d) 0 0 = kind r y 0 0 := rfl
  rw [e]
  split
  · rename_i h3; rw [if_pos h3] at h2; exact h2
  · rename_i h3
    rw [if_neg h3] at h2
    simp only [List.any_eq_true, beq_iff_eq] at h2 ⊢
    obtain ⟨l, h4, p, h5, h6⟩ := h2
    rw [mem_every] at h4 h5
    have := h.l1; have := h.l3; have := h.p1; have := h.p3
    exact ⟨l, mem_every.2 (by simp only [wideY]; omega), p, mem_every.2 (by simp only [wideY]; omega), h6⟩
theorem reach_sub {r : Rule} {f : Int} {out : List Int} {ys ys' : List Year} (h : ∀ (j : Nat) (y : Year), ys[j]? = some y → ∃ y', ys'[j]? = some y' ∧ Sub r y y') : ∀ n, ∀ x ∈ reach r f out ys n, x ∈ reach r f out ys' n
  | 0, x, hx => hx
  | n + 1, x, hx => by
    cases hy : ys[n]? with
    | none => simp only [reach, hy] at hx; simp at hx
    | some y =>
      obtain ⟨y', h1, h2⟩ := h n y hy
      rw [reach_succ hy] at hx
      rw [reach_succ h1]
      simp only [steps, List.mem_flatMap, List.mem_map] at hx ⊢
      obtain ⟨x0, h3, k, h4, rfl⟩ := hx
      exact ⟨x0, reach_sub h n x0 h3, k, h2 _ k h4, rfl⟩
def setZ (z : Zone) (j : Nat) (y : Year) : Zone := ⟨z.first, z.years.set j y⟩
theorem setZ_sub {r : Rule} {z : Zone} {j : Nat} {y y' : Year} (hj : z.years[j]? = some y) (h : Sub r y y') : ∀ (i : Nat) (u : Year), z.years[i]? = some u → ∃ u', (setZ z j y').years[i]? = some u' ∧ Sub r u u' := by
  intro i u hu
  simp only [setZ, List.getElem?_set]
  split
  · rename_i e
    subst e
    rw [hj] at hu; cases hu
    have := (List.getElem?_eq_some_iff.1 hj).1
    exact ⟨y', by simp [this], h⟩
  · exact ⟨u, hu, fun _ _ hk => hk⟩
theorem classes_sub {r : Rule} {A B : List Spot} (h : ∀ x ∈ A, x ∈ B) : ∀ c ∈ classes r A, c ∈ classes r B := by
  intro c hc
  obtain ⟨h1, h2, h3⟩ := mem_classes.1 hc
  obtain ⟨x, h4, h5⟩ := hasC_iff.1 h3
  exact mem_classes.2 ⟨h1, h2, hasC_iff.2 ⟨x, h x h4, h5⟩⟩
theorem LexB.len {a b : List Int} (h : LexB a b) : a.length ≤ b.length := by
  rcases h with h | h <;> omega
theorem false_sub {r : Rule} {z x : Zone} {c : Nat} (hz : fault r z = 0) (hx : fault r x = 0) (hc : (c : Int) < r.classes) (hl : x.years.length = z.years.length) (hf : x.first = z.first)
    (h : ∀ (i : Nat) (u : Year), z.years[i]? = some u → ∃ u', x.years[i]? = some u' ∧ Sub r u u') :
    (∃ a b, falseR r z c = (a, 0) ∧ falseR r x c = (b, 0) ∧ b.length ≤ a.length ∧ a.length ≤ 6) ∨ (falseR r z c = ([], 7) ∧ (falseR r x c = ([], 7) ∨ ∃ b, falseR r x c = (b, 0) ∧ b.length ≤ 6)) := by
  have hl6 := fault_len hz
  have hgood : ∀ t, goodF r z c t = true → goodF r x c t = true := by
    intro t ht
    unfold goodF at ht ⊢
    obtain ⟨s, h1, h2⟩ := hasC_iff.1 ht
    rw [hl, hf]
    exact hasC_iff.2 ⟨s, reach_sub h _ s h1, h2⟩
  have hlen : ∀ t ∈ allC z.years.length, t.length ≤ 6 := fun t ht => by
    obtain ⟨h1, h2⟩ := allC_mem.1 ht
    have := combos_mem.rising_len (n := z.years.length) t 0 h1 fun x hx => by have := h2 x hx; omega
    omega
  rw [falseR_ok hz hc, falseR_ok hx hc, hl]
  cases ha : (allC z.years.length).find? (goodF r z c) with
  | some a =>
    left
    obtain ⟨h1, h2, h3⟩ := find_first (allC_sorted _) ha
    cases hb : (allC z.years.length).find? (goodF r x c) with
    | some b =>
      obtain ⟨h4, h5, h6⟩ := find_first (allC_sorted _) hb
      refine ⟨a, b, rfl, rfl, ?_, hlen a h2⟩
      rcases h6 a h2 (hgood a h1) with rfl | h7
      · exact Nat.le_refl _
      · exact h7.len
    | none =>
      have := List.find?_eq_none.1 hb a h2
      rw [hgood a h1] at this
      simp at this
  | none =>
    right
    refine ⟨rfl, ?_⟩
    cases hb : (allC z.years.length).find? (goodF r x c) with
    | some b => exact .inr ⟨b, rfl, hlen b (find_first (allC_sorted _) hb).2.1⟩
    | none => exact .inl rfl

set_option maxRecDepth 100000 in
theorem c38 (l : List Int) (n : Int) (hl : l.length ≤ 1000000) : PF Try.prog 38 [.sl 1 (ints l), .int .i64 n] (· = .bool (decide (n ∈ l))) := by
  have hz := ints_len l
  refine PF.of (TF.ev fn_38 (Ev.at ?_))
  (repeat' (first | (refine Ev.go ?_; conv => whnf) | refine And.intro ?_ ?_ | exact True.intro | exact rfl | (intro rx hrx; rw [IntWalk.i64_in _ (by omega)] at hrx) | (intro hcx; exfalso; omega) | (intro hcx; exfalso; simp only [ints_len, encYs_len] at hcx; omega) | (intro ex hex; (first | obtain ⟨xx, hxx, rfl⟩ := ints_at hex | obtain ⟨xx, hxx, rfl⟩ := encYs_at hex | obtain ⟨xx, hxx, rfl⟩ := encYs_cut hex); clear hex; try simp only [Int.toNat_natCast] at hxx) | intro _))
  refine TWq.loop (fun k : Nat => [(5, .int .i64 k)]) (fun _ => []) (fun k => k ≤ l.length ∧ n ∉ l.take k) (fun k => l.length - k) 0 [] [] ?_ ⟨by omega, by simp⟩ ?_
  · (repeat' (first | (refine Ev.go ?_; conv => whnf) | refine And.intro ?_ ?_ | exact True.intro | exact rfl | (intro rx hrx; rw [IntWalk.i64_in _ (by omega)] at hrx) | (intro hcx; exfalso; omega) | (intro hcx; exfalso; simp only [ints_len, encYs_len] at hcx; omega) | (intro ex hex; (first | obtain ⟨xx, hxx, rfl⟩ := ints_at hex | obtain ⟨xx, hxx, rfl⟩ := encYs_at hex | obtain ⟨xx, hxx, rfl⟩ := encYs_cut hex); clear hex; try simp only [Int.toNat_natCast] at hxx) | intro _))
    all_goals (first | (refine ⟨?_⟩; first | rfl | exact List.cons_ne_nil _ _ | (show (_ : Nat) * _ ≤ _; simp [catS, repl, chunks, ints_len, encYs_len] <;> omega) | exact shS _ _ | exact shM _ | exact shN | exact encM_clo _ | exact ⟨rfl, rfl⟩ | exact ⟨rfl, rfl, rfl⟩ | omega | (simp only [ints_len, encYs_len]; omega) | (simp; omega) | (simp [cloL, clo, catS, repl, ints_clo, encYs_clo, encR, encY, encS]; done) | (show chkGo _ _ _ _ _ = true; kernel_rfl)) | (simp [cloL, clo, catS, repl, ints_clo, encYs_clo, encR, encY, encS]; done) | skip)
  · rintro k ⟨h1, h2⟩
    (repeat' (first | (refine Ev.go ?_; conv => whnf) | refine And.intro ?_ ?_ | exact True.intro | exact rfl | (intro rx hrx; rw [IntWalk.i64_in _ (by omega)] at hrx) | (intro hcx; exfalso; omega) | (intro hcx; exfalso; simp only [ints_len, encYs_len] at hcx; omega) | (intro ex hex; (first | obtain ⟨xx, hxx, rfl⟩ := ints_at hex | obtain ⟨xx, hxx, rfl⟩ := encYs_at hex | obtain ⟨xx, hxx, rfl⟩ := encYs_cut hex); clear hex; try simp only [Int.toNat_natCast] at hxx) | intro _))
    all_goals (try (refine ⟨?_⟩; first | omega | exact List.cons_ne_nil _ _ | (show (_ : Nat) * _ ≤ _; simp [catS, repl, chunks, ints_len, encYs_len] <;> omega)))
    · rename_i he
      rw [SV.bool_iff]; simp only [true_iff, decide_eq_true_eq]
      rw [← he]; exact List.mem_of_getElem? hxx
    · rename_i he
      refine ⟨⟨k + 1, ⟨by omega, ?_⟩, by omega, ?_⟩⟩
      · rw [take_snoc hxx]
        intro h
        rcases List.mem_append.1 h with h | h
        · exact h2 h
        · simp at h; omega
      · (repeat' (first | (refine Ev.go ?_; conv => whnf) | refine And.intro ?_ ?_ | exact True.intro | exact rfl | (intro rx hrx; rw [IntWalk.i64_in _ (by omega)] at hrx) | (intro hcx; exfalso; omega) | (intro hcx; exfalso; simp only [ints_len, encYs_len] at hcx; omega) | (intro ex hex; (first | obtain ⟨xx, hxx, rfl⟩ := ints_at hex | obtain ⟨xx, hxx, rfl⟩ := encYs_at hex | obtain ⟨xx, hxx, rfl⟩ := encYs_cut hex); clear hex; try simp only [Int.toNat_natCast] at hxx) | intro _))
        all_goals (first | (refine ⟨?_⟩; first | rfl | exact List.cons_ne_nil _ _ | (show (_ : Nat) * _ ≤ _; simp [catS, repl, chunks, ints_len, encYs_len] <;> omega) | exact shS _ _ | exact shM _ | exact shN | exact encM_clo _ | exact ⟨rfl, rfl⟩ | exact ⟨rfl, rfl, rfl⟩ | omega | (simp only [ints_len, encYs_len]; omega) | (simp; omega) | (simp [cloL, clo, catS, repl, ints_clo, encYs_clo, encR, encY, encS]; done) | (show chkGo _ _ _ _ _ = true; kernel_rfl)) | (simp [cloL, clo, catS, repl, ints_clo, encYs_clo, encR, encY, encS]; done) | skip)
    · have : k = l.length := by omega
      subst this
      rw [List.take_length] at h2
      rw [SV.bool_iff]; simp [h2]

theorem set_wide {z : Zone} {J n m : Nat} (h : n = J) (h' : m = J) {a b c d e : Int} {f : Bool} {x : List SV} {s : SV} : ((chunks 6 0 (repl 0 x) ++ encYs z.years).set n s).set m (.agg [.int .i64 a, .int .i64 b, .int .i64 c, .int .i64 d, .int .i64 e, .bool f]) = encYs (setZ z J ⟨⟨a, b⟩, ⟨c, d⟩, e, f⟩).years := by
  subst h; subst h'
  simp [chunks, setZ, encYs, List.map_set, encY]
theorem wdiv_ex {a n x : Int} (h : x = IntKind.i64.wrap (a.tdiv n)) (h1 : 0 ≤ a) (h3 : a ≤ 1000000) (h2 : 0 < n) : ∃ k : Nat, x = k ∧ (k : Int) ≤ a := by
  obtain ⟨k, h4, h5⟩ := tdiv_ex (rfl : a.tdiv n = _) h1 h2
  rw [h4, IntWalk.i64_in _ (by omega)] at h
  exact ⟨k, h, h5⟩
end Go.Proofs.Ytelnonfenpjjcaa
